/- laws.markIntS and laws.heldIntS: numbers laid into an owned slice, and looked for again. Condition: the bounds of the numbers. -/
import Derived.Test.YtanncngbmgopnaaBase
namespace Go.Proofs.Ytanncngbmgopnaa
open Go.RowKit

set_option maxHeartbeats 400000 in
theorem markIntS_any (A : Option Addr) (n c base : Nat) (k : Int) (xs : List Int) (w : World) (how : Own w base (.slice A n c) xs) (hn : n ≤ 1099511627776) (k0 : 0 ≤ k) (k1 : k ≤ 1099511627776) :
    Calls Try.prog 21 #[.slice A n c, .int .i64 k] w fun e w' => e = .returned (.int .i64 (k + n)) ∧ Own w' base (.slice A n c) (lst n (upFrom k)) ∧ w.grownBy w' (Value.slice A n c).ownBlock := by
  have hl := how.len
  subst hl
  by_cases h0 : 0 < xs.length
  · obtain ⟨g, rfl, hg1, hg2⟩ := how.at_ h0
    go_enter Try.func21, Try.ntmps21
    go_wp2
    go_loopw [1, 5] (fun q i wr => ∃ j : Nat, j ≤ xs.length ∧ i = .int .i64 j ∧ q = .int .i64 (k + j) ∧ Own wr base (.slice (some ⟨g, 0, none⟩) xs.length c) (marked j k xs) ∧ w.grownBy wr (some g)) (fun _ i _ => xs.length - (intOf i).toNat)
    case atStart => exact ⟨0, Nat.zero_le _, rfl, by go_num, by rw [marked_zero]; exact how, World.grownBy.refl _ _⟩
    case round =>
      obtain ⟨j, hj, rfl, rfl, how', hgr⟩ := hrel
      by_cases hlt : j < xs.length
      · have cf := how'.frozen j
        have cs := how'.cellsAt j (by rw [length_marked k (by omega)]; exact hlt)
        have st := how'.stored j (k + j)
        rw [marked_set k hlt] at st
        go_wp2
        go_roundw
        case rel => exact ⟨j + 1, by omega, by go_num, by go_num, st.1, grownBy_trans hgr st.2⟩
        case measure => simp [intOf]; omega
      · obtain rfl : j = xs.length := by omega
        rw [marked_full] at how'
        go_wp2
        go_ret
        exact ⟨rfl, how', hgr⟩
  · have hx : xs = [] := List.eq_nil_of_length_eq_zero (by omega)
    subst hx
    go_enter Try.func21, Try.ntmps21
    go_wp2
    refine wp_loop_rounds 1 ?_
    rw [rounds_succ]
    go_wp2
    go_ret
    exact ⟨ret_int (by simp), how, World.grownBy.refl _ _⟩

set_option maxHeartbeats 400000 in
theorem heldIntS_any (A : Option Addr) (n c : Nat) (k : Int) (w : World) (hA : View w A n (upFrom k)) (hn : n ≤ 1099511627776) (k0 : 0 ≤ k) (k1 : k ≤ 1099511627776) :
    Calls Try.prog 22 #[.slice A n c, .int .i64 k] w fun e w' => e = .returned (.int .i64 (k + n)) ∧ w = w' := by
  go_enter Try.func22, Try.ntmps22
  go_wp2
  go_loop [1, 5] (fun q i => ∃ j : Nat, j ≤ n ∧ i = .int .i64 j ∧ q = .int .i64 (k + j)) (fun _ i => n - (intOf i).toNat)
  case atStart => exact ⟨0, Nat.zero_le _, rfl, by go_num⟩
  case round =>
    obtain ⟨j, hj, rfl, rfl⟩ := hrel
    by_cases hlt : j < n
    · obtain ⟨g, off, rfl, hg, hc⟩ := hA (by omega)
      have c1 : w.cell? ⟨g, off + j, none⟩ = some (.int .i64 (k + j)) := hc j hlt
      clear hc
      go_wp2
      go_round
      case rel => exact ⟨j + 1, by omega, by go_num, by go_num⟩
      case measure => simp [intOf]; omega
    · obtain rfl : j = n := by omega
      go_wp2
      go_ret
      exact ⟨rfl, rfl⟩

end Go.Proofs.Ytanncngbmgopnaa
