/- spec.IdempotentOk and impl.IdempotentOk answer alike, for every row. Condition: the length's bound. -/
import Derived.Test.YtanncngbmgopnaaBehindOf
import Derived.Test.YtanncngbmgopnaaSlEqual
namespace Go.Proofs.Ytanncngbmgopnaa
open Go.RowKit
set_option linter.unusedVariables false

/-- Each of the first k things is led twice to where it is led once. -/
def Twice (k : Nat) (s : Nat → Nat) : Prop := ∀ j, j < k → s (s j) = s j
theorem Twice.zero (s : Nat → Nat) : Twice 0 s := fun _ h => absurd h (by omega)
theorem Twice.succ {k : Nat} {s : Nat → Nat} (h : Twice k s) (e : s (s k) = s k) : Twice (k + 1) s := fun j hj => by
  rcases Nat.lt_succ_iff_lt_or_eq.1 hj with h1 | rfl
  · exact h j h1
  · exact e

set_option maxHeartbeats 1000000 in
theorem sIdem_yes (A : Option Addr) (n c : Nat) (s : Nat → Nat) (w : World) (hA : View w A n (up s)) (hs : Mp n s) (ht : Twice n s) :
    Calls Try.prog 45 #[.slice A n c] w (RetBool w true) := by
  have hn1 := hs.1
  have hn7 := hs.2.1
  have hvs := Lib.hid hs.valid
  have hs' := Lib.hid hs
  have ht' := Lib.hid ht
  clear hs ht
  go_enter Try.func45, Try.ntmps45
  go_wp2
  go_loopw [3] (fun i wr => ∃ k : Nat, k ≤ n ∧ i = .int .i64 k ∧ Below w.heap.size w wr) (fun i _ => n - (intOf i).toNat)
  case atStart => exact ⟨0, Nat.zero_le _, rfl, Below.refl _ _⟩
  case round =>
    obtain ⟨k, hk, rfl, hb⟩ := hrel
    have hA' := hA.below hb
    by_cases hlt : k < n
    · obtain ⟨g, off, rfl, hg, hc⟩ := hA' (by omega)
      have hsk := hs'.out.lt hlt
      have c1 : wr.cell? ⟨g, off + k, none⟩ = some (.int .i64 (s k : Int)) := hc k hlt
      have c2 : wr.cell? ⟨g, off + s k, none⟩ = some (.int .i64 (s (s k) : Int)) := hc (s k) hsk
      have he : ((s (s k) : Int) != (s k : Int)) = false := by simp [ht'.out k hlt]
      clear hc
      go_wp2_with fail
      go_quiet ((go_at_call 46; exact quiet_same (sMapOk_yes _ _ _ _ _ (hA'.drewN _) hvs.out)))
      go_wp2
      go_roundw
      case rel => exact ⟨k + 1, by omega, by go_num, below_drewN hb _⟩
      case measure => simp [intOf]; omega
    · obtain rfl : k = n := by omega
      go_wp2_with fail
      refine (sMapOk_yes _ _ _ _ _ hA' hvs.out).mono ?_
      rintro e w_ ⟨rfl, rfl⟩
      go_wp2
      go_ret
      exact ⟨rfl, hb⟩

set_option maxHeartbeats 1000000 in
theorem sIdem_other (A : Option Addr) (n c : Nat) (s : Nat → Nat) (w : World) (hA : View w A n (up s)) (hs : Mp n s) (ht : ¬ Twice n s) :
    Calls Try.prog 45 #[.slice A n c] w (RetBool w false) := by
  have hn1 := hs.1
  have hn7 := hs.2.1
  have hvs := Lib.hid hs.valid
  have hs' := Lib.hid hs
  have ht' := Lib.hid ht
  clear hs ht
  go_enter Try.func45, Try.ntmps45
  go_wp2
  go_loopw [3] (fun i wr => ∃ k : Nat, k ≤ n ∧ i = .int .i64 k ∧ Twice k s ∧ Below w.heap.size w wr) (fun i _ => n - (intOf i).toNat)
  case atStart => exact ⟨0, Nat.zero_le _, rfl, Twice.zero _, Below.refl _ _⟩
  case round =>
    obtain ⟨k, hk, rfl, htw, hb⟩ := hrel
    have hA' := hA.below hb
    by_cases hlt : k < n
    · obtain ⟨g, off, rfl, hg, hc⟩ := hA' (by omega)
      have hsk := hs'.out.lt hlt
      have c1 : wr.cell? ⟨g, off + k, none⟩ = some (.int .i64 (s k : Int)) := hc k hlt
      have c2 : wr.cell? ⟨g, off + s k, none⟩ = some (.int .i64 (s (s k) : Int)) := hc (s k) hsk
      clear hc
      by_cases hq : s (s k) = s k
      · have he : ((s (s k) : Int) != (s k : Int)) = false := by simp [hq]
        have HQ := Lib.hid hq
        clear hq
        go_wp2_with fail
        go_quiet ((go_at_call 46; exact quiet_same (sMapOk_yes _ _ _ _ _ (hA'.drewN _) hvs.out)))
        go_wp2
        go_roundw
        case rel => exact ⟨k + 1, by omega, by go_num, htw.succ HQ.out, below_drewN hb _⟩
        case measure => simp [intOf]; omega
      · have he : ((s (s k) : Int) != (s k : Int)) = true := by simp; omega
        clear hq
        go_wp2_with fail
        go_quiet ((go_at_call 46; exact quiet_same (sMapOk_yes _ _ _ _ _ (hA'.drewN _) hvs.out)))
        go_wp2
        go_ret
        exact ⟨rfl, below_drewN hb _⟩
    · obtain rfl : k = n := by omega
      exact absurd htw ht'.out

set_option maxHeartbeats 1000000 in
theorem sIdem_no (A : Option Addr) (n c : Nat) (p : Nat → Int) (w : World) (hA : View w A n p) (hv : ¬ Valid n p) (hn : n ≤ 1099511627776) :
    Calls Try.prog 45 #[.slice A n c] w (RetBool w false) := by
  have hvs := Lib.hid hv
  clear hv
  by_cases h0 : 0 < n
  · obtain ⟨g, off, rfl, hg, hc⟩ := hA h0
    clear hc
    go_enter Try.func45, Try.ntmps45
    go_wp2
    refine wp_loop_rounds 1 ?_
    rw [rounds_succ]
    go_wp2_with fail
    go_quiet ((go_at_call 46; exact quiet_same (sMapOk_no _ _ _ _ _ (hA.drewN _) hvs.out hn)))
    go_wp2
    go_ret
    exact ⟨rfl, below_drewN (Below.refl _ _) _⟩
  · go_enter Try.func45, Try.ntmps45
    go_wp2
    refine wp_loop_rounds 1 ?_
    rw [rounds_succ]
    go_wp2_with fail
    refine (sMapOk_no _ _ _ _ _ hA hvs.out hn).mono ?_
    rintro e w_ ⟨rfl, rfl⟩
    go_wp2
    go_ret
    exact ⟨rfl, Below.refl _ _⟩

/-- Whether a map leads twice where it leads once. -/
def idemB (n : Nat) (s : Nat → Nat) : Bool := eqF n (up (behind s s)) n (up s)
theorem idemB_yes {n : Nat} {s : Nat → Nat} (h : Twice n s) : idemB n s = true := eqF_yes fun k hk => by simp only [up, behind, h k hk]
theorem idemB_no {n : Nat} {s : Nat → Nat} (h : ¬ Twice n s) : idemB n s = false := by
  cases e : idemB n s with
  | false => rfl
  | true =>
    refine absurd (fun k hk => ?_) h
    simp only [idemB, eqF, decide_eq_true_eq] at e
    have := congrArg (fun l => List.getD l k 0) e
    simp only [getD_lst _ hk, up, behind] at this
    omega

set_option maxHeartbeats 1000000 in
theorem idem_yes (A : Option Addr) (n c : Nat) (s : Nat → Nat) (w : World) (hA : View w A n (up s)) (hs : Mp n s) :
    Calls Try.prog 44 #[.slice A n c] w (RetBool w (idemB n s)) := by
  have hn7 := hs.2.1
  have hs' := Lib.hid hs
  clear hs
  go_enter Try.func44, Try.ntmps44
  go_wp2_with fail
  refine (mapOk_yes _ _ _ _ _ hA hs'.out.valid).mono ?_
  rintro e w_ ⟨rfl, rfl⟩
  go_wp2_with fail
  refine (behindOf_yes _ _ _ _ _ _ _ _ hA hA hs'.out hs'.out).mono ?_
  rintro e w1 ⟨A1, c1, rfl, o1, b1⟩
  go_wp2_with fail
  refine (slEqual_any _ _ _ _ _ _ _ _ _ o1.view (hA.below b1) (by rw [length_lst]; omega) (by omega)).mono ?_
  rintro e w2 ⟨rfl, b2⟩
  go_wp2
  go_ret
  refine ⟨ret_bool ?_, below_more b1 b2⟩
  unfold idemB eqF
  rw [lst_of_list]

set_option maxHeartbeats 1000000 in
theorem idem_no (A : Option Addr) (n c : Nat) (p : Nat → Int) (w : World) (hA : View w A n p) (hv : ¬ Valid n p) (hn : n ≤ 1099511627776) :
    Calls Try.prog 44 #[.slice A n c] w (RetBool w false) := by
  have hvs := Lib.hid hv
  clear hv
  go_enter Try.func44, Try.ntmps44
  go_wp2_with fail
  refine (mapOk_no _ _ _ _ _ hA hvs.out hn).mono ?_
  rintro e w_ ⟨rfl, rfl⟩
  go_wp2
  go_ret
  exact ⟨rfl, Below.refl _ _⟩

end Go.Proofs.Ytanncngbmgopnaa
