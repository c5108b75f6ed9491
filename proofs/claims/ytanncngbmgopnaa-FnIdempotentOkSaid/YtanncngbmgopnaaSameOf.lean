/- spec.SameOf and impl.SameOf: the map that leads each thing to itself, for every number. No condition. -/
import Derived.Test.YtanncngbmgopnaaApp
namespace Go.Proofs.Ytanncngbmgopnaa
open Go.RowKit

/-- A thing's own number. -/
def self (k : Nat) : Int := (k : Int)

set_option maxHeartbeats 400000 in
theorem sSameOf_yes (n : Nat) (w : World) (h1 : 1 ≤ n) (h7 : n ≤ 7) :
    Calls Try.prog 90 #[.int .i64 n] w fun e w' => ∃ v, e = .returned v ∧ Own w' w.heap.size v (lst n self) ∧ Below w.heap.size w w' := by
  go_enter Try.func90, Try.ntmps90
  go_wp2
  have how0 : Own (w.alloc (.cells #[] 3)) w.heap.size (.slice (some ⟨w.heap.size, 0, none⟩) 0 0) [] := World.ownsRow_lit w #[] 0 (Nat.le_refl _) (Nat.zero_le _) rfl
  go_loopw [3, 4] (fun v i wr => ∃ k : Nat, k ≤ n ∧ i = .int .i64 k ∧ Own wr w.heap.size v (lst k self) ∧ Below w.heap.size w wr) (fun _ i _ => n - (intOf i).toNat)
  case atStart => exact ⟨0, Nat.zero_le _, rfl, how0, (Below.refl _ _).alloc (Nat.le_refl _) _⟩
  case round =>
    obtain ⟨k, hk, rfl, how, hb⟩ := hrel
    by_cases hlt : k < n
    · go_wp2_with (at_builtin; refine wpList_app1 rfl (.tmp 15) (.tmp 17) rfl w.heap.size _ _ rfl how _ rfl (by rw [length_lst]; omega) hb.size ?_; intro v1 w1 how1 _ hb1)
      have how2 : Own w1 w.heap.size v1 (lst (k + 1) self) := by rw [lst_succ]; exact how1
      clear how1
      go_wp2
      go_roundw
      case rel => exact ⟨k + 1, by omega, by go_num, how2, hb.trans hb1⟩
      case measure => simp [intOf]; omega
    · obtain rfl : k = n := by omega
      go_wp2
      go_ret
      exact ⟨_, rfl, how, hb⟩

set_option maxHeartbeats 400000 in
theorem sSameOf_no (a : Int) (w : World) (h : a < 1 ∨ 7 < a) :
    Calls Try.prog 90 #[.int .i64 a] w fun e w' => ∃ v, e = .returned v ∧ Own w' w.heap.size v [] ∧ Below w.heap.size w w' := by
  have how0 : Own (w.alloc (.cells #[] 3)) w.heap.size (.slice (some ⟨w.heap.size, 0, none⟩) 0 0) [] := World.ownsRow_lit w #[] 0 (Nat.le_refl _) (Nat.zero_le _) rfl
  have hb0 : Below w.heap.size w (w.alloc (.cells #[] 3)) := (Below.refl _ _).alloc (Nat.le_refl _) _
  by_cases h0 : 0 < a
  · have h8 : ¬ a ≤ 7 := by omega
    go_enter Try.func90, Try.ntmps90
    go_wp2
    refine wp_loop_rounds 1 ?_
    rw [rounds_succ]
    go_wp2
    go_ret
    exact ⟨_, rfl, how0, hb0⟩
  · go_enter Try.func90, Try.ntmps90
    go_wp2
    refine wp_loop_rounds 1 ?_
    rw [rounds_succ]
    go_wp2
    go_ret
    exact ⟨_, rfl, how0, hb0⟩

set_option maxHeartbeats 400000 in
theorem sameOf_yes (n : Nat) (w : World) (h1 : 1 ≤ n) (h7 : n ≤ 7) :
    Calls Try.prog 48 #[.int .i64 n] w fun e w' => e = .returned (.slice (some ⟨w.heap.size, 0, none⟩) n n) ∧ Own w' w.heap.size (.slice (some ⟨w.heap.size, 0, none⟩) n n) (lst n self) ∧ Below w.heap.size w w' := by
  obtain ⟨i0, hi0, hz0, hz1, hz2⟩ := info_parts int_info
  go_enter Try.func48, Try.ntmps48
  go_wp2_with (at_make; refine wpList_make_full _ rfl _ _ 22 rfl w.heap.size 3 i0 (.int .i64 0) 1 Try.underlying22 hi0 hz0 hz1 .i64 .i64 _ _ n rfl rfl rfl rfl (by rw [hz2]; omega) (by unfold maxLen; omega) (Nat.le_refl _) ?_; intro w1 hown1 hgr1)
  have how1 := Own.made hown1
  have hb1 : Below w.heap.size w w1 := (Below.refl _ _).grown hgr1 (Nat.le_refl _) (by intro k hk; cases hk)
  clear hown1 hgr1
  go_loopw [15] (fun i wr => ∃ k : Nat, k ≤ n ∧ i = .int .i64 k ∧ Own wr w.heap.size (.slice (some ⟨w.heap.size, 0, none⟩) n n) (part k n self) ∧ Below w.heap.size w wr) (fun i _ => n - (intOf i).toNat)
  case atStart => exact ⟨0, Nat.zero_le _, rfl, by rw [part_zero]; exact how1, hb1⟩
  case round =>
    obtain ⟨k, hk, rfl, how, hb⟩ := hrel
    by_cases hlt : k < n
    · have cf := how.frozen k
      have cs := how.cellsAt k (by rw [length_part self (by omega)]; exact hlt)
      have st := (how.stored k (self k)).1
      rw [part_set self hlt] at st
      go_wp2
      go_roundw
      case rel => exact ⟨k + 1, by omega, by go_num, st, hb.setCell (p := ⟨w.heap.size, k, none⟩) (Nat.le_refl _) _⟩
      case measure => simp [intOf]; omega
    · obtain rfl : k = n := by omega
      rw [part_full] at how
      go_wp2
      go_ret
      exact ⟨rfl, how, hb⟩

set_option maxHeartbeats 400000 in
theorem sameOf_no (a : Int) (w : World) (h : a < 1 ∨ 7 < a) :
    Calls Try.prog 48 #[.int .i64 a] w fun e w' => e = .returned (.slice none 0 0) ∧ w = w' := by
  by_cases h1 : a < 1
  · go_enter Try.func48, Try.ntmps48
    go_wp2
    go_ret
    exact ⟨rfl, rfl⟩
  · have h8 : 7 < a := by omega
    go_enter Try.func48, Try.ntmps48
    go_wp2
    go_ret
    exact ⟨rfl, rfl⟩

end Go.Proofs.Ytanncngbmgopnaa
