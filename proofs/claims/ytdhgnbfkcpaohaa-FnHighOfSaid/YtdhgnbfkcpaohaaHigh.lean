/- HighOf and IndexOf of the reference and of the program. Conditions: a map, or none. -/
import Derived.Test.YtdhgnbfkcpaohaaTailSpec
import Derived.Test.YtdhgnbfkcpaohaaTail
import Derived.Test.YtdhgnbfkcpaohaaRhoD
namespace Go.Proofs.Ytdhgnbfkcpaohaa
open Go.RowKit
set_option linter.unusedVariables false

/-- The greatest of the first k tails, -1 of none. -/
noncomputable def hiTo (s : Nat → Nat) : Nat → Int
  | 0 => -1
  | k + 1 => max (hiTo s k) (((rho s k).1 : Nat) : Int)
theorem hiTo_ge (s : Nat → Nat) (k : Nat) : -1 ≤ hiTo s k := by
  induction k with
  | zero => exact Int.le_refl _
  | succ k ih => simp only [hiTo]; omega
theorem hiTo_le {n : Nat} {s : Nat → Nat} (hs : Mp n s) (k : Nat) (hk : k ≤ n) : hiTo s k ≤ 7 := by
  induction k with
  | zero => simp [hiTo]
  | succ k ih =>
    have h1 := (rho_is hs (x := k) (by omega)).le hs (by omega)
    have h2 := hs.2.1
    have := ih (by omega)
    simp only [hiTo]; omega

set_option maxHeartbeats 1000000 in
theorem sHighOf_yes (A : Option Addr) (n c : Nat) (s : Nat → Nat) (w : World) (hA : View w A n (up s)) (hs : Mp n s) :
    Calls Try.prog 24 #[.slice A n c] w (RetInt w (hiTo s n)) := by
  have h1 := hs.1
  have h7 := hs.2.1
  have HS := Lib.hid hs
  clear hs
  go_enter Try.func24, Try.ntmps24
  go_wp2
  go_loopw [3, 4] (fun b i wr => ∃ k : Nat, k ≤ n ∧ i = .int .i64 k ∧ b = .int .i64 (hiTo s k) ∧ Below w.heap.size w wr) (fun _ i _ => n - (intOf i).toNat)
  case atStart => exact ⟨0, Nat.zero_le _, rfl, rfl, Below.refl _ _⟩
  case round =>
    obtain ⟨k, hk, rfl, rfl, hb⟩ := hrel
    have hA' := hA.below hb
    have hge := hiTo_ge s k
    have hle := hiTo_le HS.out k hk
    by_cases hlt : k < n
    · have ht := (rho_is HS.out hlt).le HS.out hlt
      go_wp2_with fail
      refine (sMapOk_yes _ _ _ _ _ hA' HS.out.valid).mono ?_
      rintro e w_ ⟨rfl, rfl⟩
      go_wp2_with fail
      refine (sTailOf_yes _ _ _ _ _ _ _ _ hA' HS.out hlt (rho_is HS.out hlt)).mono ?_
      rintro e w1 ⟨rfl, b1⟩
      go_wp2
      all_goals
        go_roundw
        case rel => exact ⟨k + 1, by omega, by go_num, by simp only [hiTo]; first | rfl | (congr 1; omega), below_more hb b1⟩
        case measure => simp [intOf]; omega
    · obtain rfl : k = n := by omega
      go_wp2
      go_ret
      exact ⟨rfl, hb⟩

set_option maxHeartbeats 400000 in
theorem sHighOf_no (A : Option Addr) (n c : Nat) (p : Nat → Int) (w : World) (hA : View w A n p) (hn : n ≤ 1099511627776) (hv : ¬ Valid n p) :
    Calls Try.prog 24 #[.slice A n c] w (RetInt w (-1)) := by
  have HV := Lib.hid hv
  clear hv
  by_cases h0 : 0 < n
  · go_enter Try.func24, Try.ntmps24
    go_wp2
    refine wp_loop_rounds 1 ?_
    rw [rounds_succ]
    go_wp2_with fail
    refine (sMapOk_no _ _ _ _ _ hA HV.out hn).mono ?_
    rintro e w_ ⟨rfl, rfl⟩
    go_wp2
    go_ret
    exact ⟨rfl, Below.refl _ _⟩
  · go_enter Try.func24, Try.ntmps24
    go_wp2
    refine wp_loop_rounds 1 ?_
    rw [rounds_succ]
    go_wp2
    go_ret
    exact ⟨rfl, Below.refl _ _⟩

set_option maxHeartbeats 1000000 in
theorem highOf_yes (A : Option Addr) (n c : Nat) (s : Nat → Nat) (w : World) (hA : View w A n (up s)) (hs : Mp n s) :
    Calls Try.prog 23 #[.slice A n c] w (RetInt w (hiTo s n)) := by
  have h1 := hs.1
  have h7 := hs.2.1
  have HS := Lib.hid hs
  clear hs
  go_enter Try.func23, Try.ntmps23
  go_wp2_with fail
  refine (mapOk_yes _ _ _ _ _ hA HS.out.valid).mono ?_
  rintro e w_ ⟨rfl, rfl⟩
  go_wp2
  go_loopw [3, 11] (fun b i wr => ∃ k : Nat, k ≤ n ∧ i = .int .i64 k ∧ b = .int .i64 (hiTo s k) ∧ Below w.heap.size w wr) (fun _ i _ => n - (intOf i).toNat)
  case atStart => exact ⟨0, Nat.zero_le _, rfl, rfl, Below.refl _ _⟩
  case round =>
    obtain ⟨k, hk, rfl, rfl, hb⟩ := hrel
    have hA' := hA.below hb
    have hge := hiTo_ge s k
    have hle := hiTo_le HS.out k hk
    by_cases hlt : k < n
    · have ht := (rho_is HS.out hlt).le HS.out hlt
      go_wp2_with fail
      refine (tailOf_yes _ _ _ _ _ _ _ _ hA' HS.out hlt (rho_is HS.out hlt)).mono ?_
      rintro e w1 ⟨rfl, b1⟩
      go_wp2
      all_goals
        go_roundw
        case rel => exact ⟨k + 1, by omega, by go_num, by simp only [hiTo]; first | rfl | (congr 1; omega), below_more hb b1⟩
        case measure => simp [intOf]; omega
    · obtain rfl : k = n := by omega
      go_wp2
      go_ret
      exact ⟨rfl, hb⟩

set_option maxHeartbeats 400000 in
theorem highOf_no (A : Option Addr) (n c : Nat) (p : Nat → Int) (w : World) (hA : View w A n p) (hn : n ≤ 1099511627776) (hv : ¬ Valid n p) :
    Calls Try.prog 23 #[.slice A n c] w (RetInt w (-1)) := by
  have HV := Lib.hid hv
  clear hv
  go_enter Try.func23, Try.ntmps23
  go_wp2_with fail
  refine (mapOk_no _ _ _ _ _ hA HV.out hn).mono ?_
  rintro e w_ ⟨rfl, rfl⟩
  go_wp2
  go_ret
  exact ⟨rfl, Below.refl _ _⟩

end Go.Proofs.Ytdhgnbfkcpaohaa
