/- HighOf and IndexOf of the reference and of the program. Conditions: a map, or none. -/
import Derived.Test.YtlmgboipnngipaaTailSpec
import Derived.Test.YtlmgboipnngipaaTail
namespace Go.Proofs.Ytlmgboipnngipaa
open Go.RowKit
set_option linter.unusedVariables false

/-- Tail and loop of the way from x. -/
noncomputable def rho (s : Nat → Nat) (x : Nat) : Nat × Nat := Classical.epsilon (fun q : Nat × Nat => Rho s x q.1 q.2)
theorem rho_is {n : Nat} {s : Nat → Nat} (hs : Mp n s) {x : Nat} (hx : x < n) : Rho s x (rho s x).1 (rho s x).2 := by
  obtain ⟨t, l, _, hr⟩ := rho_ex hs hx
  exact Classical.epsilon_spec (p := fun q : Nat × Nat => Rho s x q.1 q.2) ⟨(t, l), hr⟩
/-- The greatest of the first k tails, -1 of none. -/
noncomputable def hiTo (s : Nat → Nat) : Nat → Int
  | 0 => -1
  | k + 1 => max (hiTo s k) (((rho s k).1 : Nat) : Int)
theorem hiTo_ge (s : Nat → Nat) (k : Nat) : -1 ≤ hiTo s k := by
  induction k with
  | zero => exact Int.le_refl _
  | succ k ih => simp only [hiTo]; omega
theorem hiTo_le {n : Nat} {s : Nat → Nat} (hs : Mp n s) (k : Nat) (hk : k ≤ n) : hiTo s k ≤ 7 := by
  induction k with
  | zero => simp [hiTo]
  | succ k ih =>
    have h1 := (rho_is hs (x := k) (by omega)).le hs (by omega)
    have h2 := hs.2.1
    have := ih (by omega)
    simp only [hiTo]; omega

set_option maxHeartbeats 1000000 in
theorem sHighOf_yes (A : Option Addr) (n c : Nat) (s : Nat → Nat) (w : World) (hA : View w A n (up s)) (hs : Mp n s) :
    Calls Try.prog 42 #[.slice A n c] w (RetInt w (hiTo s n)) := by
  have h1 := hs.1
  have h7 := hs.2.1
  have HS := Lib.hid hs
  clear hs
  go_enter Try.func42, Try.ntmps42
  go_wp2
  go_loopw [3, 4] (fun b i wr => ∃ k : Nat, k ≤ n ∧ i = .int .i64 k ∧ b = .int .i64 (hiTo s k) ∧ Below w.heap.size w wr) (fun _ i _ => n - (intOf i).toNat)
  case atStart => exact ⟨0, Nat.zero_le _, rfl, rfl, Below.refl _ _⟩
  case round =>
    obtain ⟨k, hk, rfl, rfl, hb⟩ := hrel
    have hA' := hA.below hb
    have hge := hiTo_ge s k
    have hle := hiTo_le HS.out k hk
    by_cases hlt : k < n
    · have ht := (rho_is HS.out hlt).le HS.out hlt
      go_wp2_with fail
      refine (sMapOk_yes _ _ _ _ _ hA' HS.out.valid).mono ?_
      rintro e w_ ⟨rfl, rfl⟩
      go_wp2_with fail
      refine (sTailOf_yes _ _ _ _ _ _ _ _ hA' HS.out hlt (rho_is HS.out hlt)).mono ?_
      rintro e w1 ⟨rfl, b1⟩
      go_wp2
      all_goals
        go_roundw
        case rel => exact ⟨k + 1, by omega, by go_num, by simp only [hiTo]; first | rfl | (congr 1; omega), below_more hb b1⟩
        case measure => simp [intOf]; omega
    · obtain rfl : k = n := by omega
      go_wp2
      go_ret
      exact ⟨rfl, hb⟩

set_option maxHeartbeats 400000 in
theorem sHighOf_no (A : Option Addr) (n c : Nat) (p : Nat → Int) (w : World) (hA : View w A n p) (hn : n ≤ 1099511627776) (hv : ¬ Valid n p) :
    Calls Try.prog 42 #[.slice A n c] w (RetInt w (-1)) := by
  have HV := Lib.hid hv
  clear hv
  by_cases h0 : 0 < n
  · go_enter Try.func42, Try.ntmps42
    go_wp2
    refine wp_loop_rounds 1 ?_
    rw [rounds_succ]
    go_wp2_with fail
    refine (sMapOk_no _ _ _ _ _ hA HV.out hn).mono ?_
    rintro e w_ ⟨rfl, rfl⟩
    go_wp2
    go_ret
    exact ⟨rfl, Below.refl _ _⟩
  · go_enter Try.func42, Try.ntmps42
    go_wp2
    refine wp_loop_rounds 1 ?_
    rw [rounds_succ]
    go_wp2
    go_ret
    exact ⟨rfl, Below.refl _ _⟩

set_option maxHeartbeats 1000000 in
theorem highOf_yes (A : Option Addr) (n c : Nat) (s : Nat → Nat) (w : World) (hA : View w A n (up s)) (hs : Mp n s) :
    Calls Try.prog 43 #[.slice A n c] w (RetInt w (hiTo s n)) := by
  have h1 := hs.1
  have h7 := hs.2.1
  have HS := Lib.hid hs
  clear hs
  go_enter Try.func43, Try.ntmps43
  go_wp2_with fail
  refine (mapOk_yes _ _ _ _ _ hA HS.out.valid).mono ?_
  rintro e w_ ⟨rfl, rfl⟩
  go_wp2
  go_loopw [3, 11] (fun b i wr => ∃ k : Nat, k ≤ n ∧ i = .int .i64 k ∧ b = .int .i64 (hiTo s k) ∧ Below w.heap.size w wr) (fun _ i _ => n - (intOf i).toNat)
  case atStart => exact ⟨0, Nat.zero_le _, rfl, rfl, Below.refl _ _⟩
  case round =>
    obtain ⟨k, hk, rfl, rfl, hb⟩ := hrel
    have hA' := hA.below hb
    have hge := hiTo_ge s k
    have hle := hiTo_le HS.out k hk
    by_cases hlt : k < n
    · have ht := (rho_is HS.out hlt).le HS.out hlt
      go_wp2_with fail
      refine (tailOf_yes _ _ _ _ _ _ _ _ hA' HS.out hlt (rho_is HS.out hlt)).mono ?_
      rintro e w1 ⟨rfl, b1⟩
      go_wp2
      all_goals
        go_roundw
        case rel => exact ⟨k + 1, by omega, by go_num, by simp only [hiTo]; first | rfl | (congr 1; omega), below_more hb b1⟩
        case measure => simp [intOf]; omega
    · obtain rfl : k = n := by omega
      go_wp2
      go_ret
      exact ⟨rfl, hb⟩

set_option maxHeartbeats 400000 in
theorem highOf_no (A : Option Addr) (n c : Nat) (p : Nat → Int) (w : World) (hA : View w A n p) (hn : n ≤ 1099511627776) (hv : ¬ Valid n p) :
    Calls Try.prog 43 #[.slice A n c] w (RetInt w (-1)) := by
  have HV := Lib.hid hv
  clear hv
  go_enter Try.func43, Try.ntmps43
  go_wp2_with fail
  refine (mapOk_no _ _ _ _ _ hA HV.out hn).mono ?_
  rintro e w_ ⟨rfl, rfl⟩
  go_wp2
  go_ret
  exact ⟨rfl, Below.refl _ _⟩

end Go.Proofs.Ytlmgboipnngipaa
