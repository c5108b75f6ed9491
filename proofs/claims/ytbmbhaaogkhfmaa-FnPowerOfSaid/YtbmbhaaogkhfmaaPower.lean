/- impl.powerOf and impl.PowerOf: a map put behind itself some times. Conditions: a map and a number from 0 to 1000000, or none. -/
import Derived.Test.YtbmbhaaogkhfmaaPowerSpec
namespace Go.Proofs.Ytbmbhaaogkhfmaa
open Go.RowKit
set_option linter.unusedVariables false

set_option maxHeartbeats 1000000 in
theorem powerOf_any (f : Nat) : ∀ (A : Option Addr) (n c m : Nat) (s : Nat → Nat) (w : World), m ≤ f → View w A n (up s) → Mp n s → m ≤ 1000000 →
    Calls Try.prog 66 #[.slice A n c, .int .i64 m] w (RetOwn w (lst n (up (pw s m)))) := by
  induction f with
  | zero =>
    intro A n c m s w hf hA hs hm
    obtain rfl : m = 0 := by omega
    have hn1 := hs.1
    have h7 := hs.2.1
    clear hs
    go_enter Try.func66, Try.ntmps66
    go_wp2_with fail
    refine ((sameOf_yes n _ hn1 h7).mono (R' := RetL w n (up (pw s 0))) fun e w' ⟨h1, h2, h3⟩ => RetOwn.lst_ (RetOwn.of_ h1 h2 h3)).mono ?_
    rintro e w1 ⟨A1, c1, rfl, o1, b1⟩
    go_wp2
    go_ret
    exact RetOwn.of_ rfl o1 b1
  | succ f ih =>
    intro A n c m s w hf hA hs hm
    have hn1 := hs.1
    have h7 := hs.2.1
    have HS := Lib.hid hs
    have IH := Lib.hid ih
    clear hs ih
    by_cases h0 : m = 0
    · subst h0
      go_enter Try.func66, Try.ntmps66
      go_wp2_with fail
      refine ((sameOf_yes n _ hn1 h7).mono (R' := RetL w n (up (pw s 0))) fun e w' ⟨h1, h2, h3⟩ => RetOwn.lst_ (RetOwn.of_ h1 h2 h3)).mono ?_
      rintro e w1 ⟨A1, c1, rfl, o1, b1⟩
      go_wp2
      go_ret
      exact RetOwn.of_ rfl o1 b1
    · have hz : ((m : Int) == 0) = false := by simp; omega
      by_cases hodd : m % 2 = 1
      · have ht : ((m : Int) % 2 == 1) = true := by simp; omega
        have e1 : m / 2 + m / 2 + 1 = m := by omega
        have HE := Lib.hid e1
        clear e1 hodd h0
        go_enter Try.func66, Try.ntmps66
        go_wp2_with fail
        refine ((IH.out A n c (m / 2) s _ (by omega) hA HS.out (by omega)).mono fun _ _ h => RetOwn.lst_ h).mono ?_
        rintro e w1 ⟨A1, c1, rfl, o1, b1⟩
        go_wp2_with fail
        refine ((behindOf_yes _ _ _ _ _ _ _ _ o1.viewL o1.viewL (pw_mp HS.out _) (pw_mp HS.out _)).mono fun _ _ h => RetOwn.lst_ h).mono ?_
        rintro e w2 ⟨A2, c2, rfl, o2, b2⟩
        replace b2 := below_more b1 b2
        rw [behind_pw] at o2
        clear o1
        go_wp2_with fail
        refine ((behindOf_yes _ _ _ _ _ _ _ _ o2.viewL (hA.below b2) (pw_mp HS.out _) HS.out).mono fun _ _ h => RetOwn.lst_ h).mono ?_
        rintro e w3 ⟨A3, c3, rfl, o3, b3⟩
        replace o3 := Own.mono o3 b2.size
        replace b3 := below_more b2 b3
        rw [behind_one, HE.out] at o3
        go_wp2
        go_ret
        exact RetOwn.of_ rfl o3 b3
      · have ht : ((m : Int) % 2 == 1) = false := by simp; omega
        have e1 : m / 2 + m / 2 = m := by omega
        have HE := Lib.hid e1
        clear e1 hodd h0
        go_enter Try.func66, Try.ntmps66
        go_wp2_with fail
        refine ((IH.out A n c (m / 2) s _ (by omega) hA HS.out (by omega)).mono fun _ _ h => RetOwn.lst_ h).mono ?_
        rintro e w1 ⟨A1, c1, rfl, o1, b1⟩
        go_wp2_with fail
        refine ((behindOf_yes _ _ _ _ _ _ _ _ o1.viewL o1.viewL (pw_mp HS.out _) (pw_mp HS.out _)).mono fun _ _ h => RetOwn.lst_ h).mono ?_
        rintro e w2 ⟨A2, c2, rfl, o2, b2⟩
        replace o2 := Own.mono o2 b1.size
        replace b2 := below_more b1 b2
        rw [behind_pw, HE.out] at o2
        clear o1
        go_wp2
        go_ret
        exact RetOwn.of_ rfl o2 b2

set_option maxHeartbeats 400000 in
theorem powOf_yes (A : Option Addr) (n c m : Nat) (s : Nat → Nat) (w : World) (hA : View w A n (up s)) (hs : Mp n s) (hm : m ≤ 1000000) :
    Calls Try.prog 44 #[.slice A n c, .int .i64 m] w (RetOwn w (lst n (up (pw s m)))) := by
  have HS := Lib.hid hs
  clear hs
  go_enter Try.func44, Try.ntmps44
  go_wp2_with fail
  refine (mapOk_yes _ _ _ _ _ hA HS.out.valid).mono ?_
  rintro e w_ ⟨rfl, rfl⟩
  go_wp2_with fail
  refine ((powerOf_any m A n c m s _ (Nat.le_refl _) hA HS.out hm).mono fun _ _ h => RetOwn.lst_ h).mono ?_
  rintro e w1 ⟨A1, c1, rfl, o1, b1⟩
  go_wp2
  go_ret
  exact RetOwn.of_ rfl o1 b1

set_option maxHeartbeats 400000 in
theorem powOf_no (A : Option Addr) (n c : Nat) (z : Int) (p : Nat → Int) (w : World) (hA : View w A n p) (hn : n ≤ 1099511627776) (h : ¬ (Valid n p ∧ 0 ≤ z ∧ z ≤ 1000000)) :
    Calls Try.prog 44 #[.slice A n c, .int .i64 z] w (RetOwn w []) := by
  by_cases hv : Valid n p
  · have HV := Lib.hid hv
    by_cases h0 : 0 ≤ z
    · have h1 : 1000000 < z := by
        have : ¬ z ≤ 1000000 := fun h1 => h ⟨hv, h0, h1⟩
        omega
      clear hv h
      go_enter Try.func44, Try.ntmps44
      go_wp2_with fail
      refine (mapOk_yes _ _ _ _ _ hA HV.out).mono ?_
      rintro e w_ ⟨rfl, rfl⟩
      go_wp2
      go_ret
      exact RetOwn.of_ rfl (Own.nil _ _) (Below.refl _ _)
    · clear hv h
      go_enter Try.func44, Try.ntmps44
      go_wp2_with fail
      refine (mapOk_yes _ _ _ _ _ hA HV.out).mono ?_
      rintro e w_ ⟨rfl, rfl⟩
      go_wp2
      go_ret
      exact RetOwn.of_ rfl (Own.nil _ _) (Below.refl _ _)
  · have HV := Lib.hid hv
    clear hv h
    go_enter Try.func44, Try.ntmps44
    go_wp2_with fail
    refine (mapOk_no _ _ _ _ _ hA HV.out hn).mono ?_
    rintro e w_ ⟨rfl, rfl⟩
    go_wp2
    go_ret
    exact RetOwn.of_ rfl (Own.nil _ _) (Below.refl _ _)

end Go.Proofs.Ytbmbhaaogkhfmaa
