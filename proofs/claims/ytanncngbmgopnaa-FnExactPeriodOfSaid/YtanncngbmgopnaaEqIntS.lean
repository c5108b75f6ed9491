/- laws.eqIntS: whether two slices of ints read alike, for any two slices. Condition: the lengths' bound. -/
import Derived.Test.YtanncngbmgopnaaBase
namespace Go.Proofs.Ytanncngbmgopnaa
open Go.RowKit

set_option maxHeartbeats 400000 in
theorem eqIntS_any (A B : Option Addr) (n m c d : Nat) (p q : Nat → Int) (w : World) (hA : View w A n p) (hB : View w B m q) (hn : n ≤ 1099511627776) (_hm : m ≤ 1099511627776) :
    Calls Try.prog 18 #[.slice A n c, .slice B m d] w fun e w' => e = .returned (.bool (eqF n p m q)) ∧ Below w.heap.size w w' := by
  by_cases hnm : n = m
  · subst hnm
    go_enter Try.func18, Try.ntmps18
    go_wp2
    go_loopw [5] (fun i wr => ∃ k : Nat, k ≤ n ∧ i = .int .i64 k ∧ Agree k p q ∧ Below w.heap.size w wr) (fun i _ => n - (intOf i).toNat)
    case atStart => exact ⟨0, Nat.zero_le _, rfl, Agree.zero _ _, Below.refl _ _⟩
    case round =>
      obtain ⟨k, hk, rfl, hag, hb⟩ := hrel
      by_cases hlt : k < n
      · obtain ⟨g, off, rfl, hg, hc⟩ := (hA.below hb) (by omega)
        obtain ⟨g', off', rfl, hg', hc'⟩ := (hB.below hb) (by omega)
        have c1 := hc k hlt
        have c2 := hc' k hlt
        clear hc hc'
        by_cases he : p k = q k
        · have ht : (p k != q k) = false := by simp [he]
          have HE := Lib.hid he
          clear he
          go_wp2_with fail
          go_quiet (fail)
          go_wp2
          go_roundw
          case rel => exact ⟨k + 1, by omega, by go_num, hag.succ HE.out, below_drewN hb _⟩
          case measure => simp [intOf]; omega
        · have ht : (p k != q k) = true := by simp [he]
          go_wp2_with fail
          go_quiet (fail)
          go_wp2
          go_ret
          exact ⟨ret_bool (eqF_no hlt he).symm, below_drewN hb _⟩
      · obtain rfl : k = n := by omega
        go_wp2
        go_ret
        exact ⟨ret_bool (eqF_yes hag).symm, hb⟩
  · have hne : ((n : Int) != (m : Int)) = true := by simp; omega
    go_enter Try.func18, Try.ntmps18
    go_wp2
    go_ret
    exact ⟨ret_bool (eqF_len hnm).symm, Below.refl _ _⟩

theorem eqIntS_yes (A B : Option Addr) (n c d : Nat) (p : Nat → Int) (w : World) (hA : View w A n p) (hB : View w B n p) (hn : n ≤ 1099511627776) :
    Calls Try.prog 18 #[.slice A n c, .slice B n d] w fun e w' => e = .returned (.bool true) ∧ Below w.heap.size w w' := by
  have h := eqIntS_any A B n n c d p p w hA hB hn hn
  rw [eqF_yes (fun _ _ => rfl)] at h
  exact h

end Go.Proofs.Ytanncngbmgopnaa
