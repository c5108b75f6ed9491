/- spec.StepsOf and impl.StepsOf: where one stands after some steps. Conditions: a map, one of its things and a number from 0 to 1000000, or none. -/
import Derived.Test.YtanncngbmgopnaaTailSpec
import Derived.Test.YtanncngbmgopnaaLoopLong
namespace Go.Proofs.Ytanncngbmgopnaa
open Go.RowKit
set_option linter.unusedVariables false

theorem steps_mod {s : Nat → Nat} {x t l m : Nat} (hr : Rho s x t l) (h : t ≤ m) : it s (t + (m - t) % l) x = it s m x := by
  rw [← hr.mod]
  congr 1
  omega

set_option maxHeartbeats 1000000 in
theorem sStepsOf_yes (A : Option Addr) (n c x m t l : Nat) (s : Nat → Nat) (w : World) (hA : View w A n (up s)) (hs : Mp n s) (hx : x < n) (hm : m ≤ 1000000) (hr : Rho s x t l) :
    Calls Try.prog 40 #[.slice A n c, .int .i64 x, .int .i64 m] w (RetInt w (it s m x)) := by
  have h7 := hs.2.1
  have hle := hr.le hs hx
  have hlp := hr.pos
  have HS := Lib.hid hs
  have HR := Lib.hid hr
  clear hs hr
  go_enter Try.func40, Try.ntmps40
  go_wp2_with fail
  refine ((sWayFrom_yes _ _ _ _ _ _ _ _ hA HS.out hx HR.out).mono fun _ _ h => RetOwn.lst_ h).mono ?_
  rintro e w1 ⟨A1, c1, rfl, o1, b1⟩
  obtain ⟨g1, rfl, hg1, hg2⟩ := o1.at_ (by omega)
  have hne : ((t : Int) + (l : Int) == 0) = false := by simp; omega
  go_wp2_with fail
  refine (l1In_yes _ _ _ _ (by omega) (by omega)).mono ?_
  rintro e w_ ⟨rfl, rfl⟩
  by_cases hlt : m < t + l
  · have d1 : w1.cell? ⟨g1, m, none⟩ = some (.int .i64 (it s m x : Int)) := o1.cellL m hlt
    go_wp2_with fail
    go_ret
    exact ⟨rfl, b1⟩
  · go_wp2_with fail
    refine (sTailOf_yes _ _ _ _ _ _ _ _ (hA.below b1) HS.out hx HR.out).mono ?_
    rintro e w2 ⟨rfl, b2⟩
    have hmod := Nat.mod_lt (m - t) hlp
    have em := Lib.hid (steps_mod HR.out (show t ≤ m by omega))
    obtain ⟨q, hq⟩ : ∃ q, q = (m - t) % l := ⟨_, rfl⟩
    have d2 : w2.cell? ⟨g1, t + q, none⟩ = some (.int .i64 (it s m x : Int)) := by
      rw [b2.cell (p := ⟨g1, t + q, none⟩) hg2, o1.cellL (t + q) (by omega)]
      simp only [way]
      rw [hq, em.out]
    have e1 : ((m : Int) - (t : Int)) % ((t : Int) + (l : Int) - (t : Int)) = (q : Int) := by
      rw [hq]
      have h1 : ((m : Int) - (t : Int)) = ((m - t : Nat) : Int) := by omega
      have h2 : ((t : Int) + (l : Int) - (t : Int)) = (l : Int) := by omega
      rw [h1, h2]
      exact (Int.natCast_emod _ _).symm
    have hql : q < l := by omega
    have HQ := Lib.hid hq
    clear hq hmod
    have hm0 : (0 : Int) ≤ (m : Int) - (t : Int) := by omega
    have hm1 : (1 : Int) ≤ (t : Int) + (l : Int) - (t : Int) := by omega
    go_wp2_with fail
    go_ret
    exact ⟨rfl, below_more b1 b2⟩

set_option maxHeartbeats 1000000 in
theorem sStepsOf_no (A : Option Addr) (n c : Nat) (x z : Int) (p : Nat → Int) (w : World) (hA : View w A n p) (hn : n ≤ 1099511627776) (h : ¬ ((Valid n p ∧ 0 ≤ x ∧ x < n) ∧ 0 ≤ z ∧ z ≤ 1000000)) :
    Calls Try.prog 40 #[.slice A n c, .int .i64 x, .int .i64 z] w (RetInt w (-1)) := by
  by_cases hv : Valid n p ∧ 0 ≤ x ∧ x < n
  · have hz : ¬ (0 ≤ z ∧ z ≤ 1000000) := fun hz => h ⟨hv, hz⟩
    have HZ := Lib.hid hz
    clear hz h
    obtain ⟨hv, h0, h1⟩ := hv
    obtain ⟨hs, es⟩ := hv.mp
    obtain ⟨y, rfl⟩ : ∃ y : Nat, x = y := ⟨x.toNat, by omega⟩
    have hx : y < n := by omega
    obtain ⟨t, l, hle, hr⟩ := rho_ex hs hx
    have hlp := hr.pos
    replace hA := hA.congr es
    have HS := Lib.hid hs
    have HR := Lib.hid hr
    clear hs hr es hv
    go_enter Try.func40, Try.ntmps40
    go_wp2_with fail
    refine ((sWayFrom_yes _ _ _ _ _ _ _ _ hA HS.out hx HR.out).mono fun _ _ h => RetOwn.lst_ h).mono ?_
    rintro e w1 ⟨A1, c1, rfl, o1, b1⟩
    have hne : ((t : Int) + (l : Int) == 0) = false := by simp; omega
    go_wp2_with fail
    refine (l1In_no _ _ _ _ HZ.out).mono ?_
    rintro e w_ ⟨rfl, rfl⟩
    go_wp2
    go_ret
    exact ⟨rfl, b1⟩
  · have HV := Lib.hid hv
    clear hv h
    go_enter Try.func40, Try.ntmps40
    go_wp2_with fail
    refine (sWayFrom_no _ _ _ _ _ _ hA hn HV.out).mono ?_
    rintro e w1 ⟨A1, c1, rfl, o1, b1⟩
    go_wp2
    go_ret
    exact ⟨rfl, b1⟩

set_option maxHeartbeats 1000000 in
theorem stepsOf_yes (A : Option Addr) (n c x m t l : Nat) (s : Nat → Nat) (w : World) (hA : View w A n (up s)) (hs : Mp n s) (hx : x < n) (hm : m ≤ 1000000) (hr : Rho s x t l) :
    Calls Try.prog 39 #[.slice A n c, .int .i64 x, .int .i64 m] w (RetInt w (it s m x)) := by
  have h7 := hs.2.1
  have hle := hr.le hs hx
  have hlp := hr.pos
  have HS := Lib.hid hs
  have HR := Lib.hid hr
  clear hs hr
  go_enter Try.func39, Try.ntmps39
  go_wp2_with fail
  refine (thingOk_yes _ _ _ _ _ _ hA HS.out.valid hx).mono ?_
  rintro e w_ ⟨rfl, rfl⟩
  go_wp2_with fail
  refine (tailOf_yes _ _ _ _ _ _ _ _ hA HS.out hx HR.out).mono ?_
  rintro e w1 ⟨rfl, b1⟩
  by_cases hlt : t < m
  · go_wp2_with fail
    refine (loopLong_yes _ _ _ _ _ _ _ _ (hA.below b1) HS.out hx HR.out).mono ?_
    rintro e w2 ⟨rfl, b2⟩
    replace b1 := below_more b1 b2
    clear b2
    have hmod := Nat.mod_lt (m - t) hlp
    have em := Lib.hid (steps_mod HR.out (show t ≤ m by omega))
    obtain ⟨q, hq⟩ : ∃ q, q = (m - t) % l := ⟨_, rfl⟩
    have e1 : ((m : Int) - (t : Int)) % (l : Int) = (q : Int) := by
      rw [hq]
      have h1 : ((m : Int) - (t : Int)) = ((m - t : Nat) : Int) := by omega
      rw [h1]
      exact (Int.natCast_emod _ _).symm
    have hql : q < l := by omega
    have HQ := Lib.hid hq
    clear hq hmod
    have hm0 : (0 : Int) ≤ (m : Int) - (t : Int) := by omega
    have hm1 : (1 : Int) ≤ (l : Int) := by omega
    go_wp2_with fail
    refine ((wayFrom_yes _ _ _ _ _ _ _ _ (hA.below b1) HS.out hx HR.out).mono fun _ _ h => RetOwn.lst_ h).mono ?_
    rintro e w3 ⟨A3, c3, rfl, o3, b3⟩
    obtain ⟨g3, rfl, hg1, hg2⟩ := o3.at_ (by omega)
    have d3 : w3.cell? ⟨g3, t + q, none⟩ = some (.int .i64 (it s m x : Int)) := by
      rw [o3.cellL (t + q) (by omega)]
      simp only [way]
      rw [HQ.out, em.out]
    go_wp2_with fail
    go_ret
    exact ⟨rfl, below_more b1 b3⟩
  · go_wp2_with fail
    refine ((wayFrom_yes _ _ _ _ _ _ _ _ (hA.below b1) HS.out hx HR.out).mono fun _ _ h => RetOwn.lst_ h).mono ?_
    rintro e w3 ⟨A3, c3, rfl, o3, b3⟩
    obtain ⟨g3, rfl, hg1, hg2⟩ := o3.at_ (by omega)
    have d3 : w3.cell? ⟨g3, m, none⟩ = some (.int .i64 (it s m x : Int)) := o3.cellL m (by omega)
    have hml : m < t + l := by omega
    go_wp2_with fail
    go_ret
    exact ⟨rfl, below_more b1 b3⟩

set_option maxHeartbeats 1000000 in
theorem stepsOf_no (A : Option Addr) (n c : Nat) (x z : Int) (p : Nat → Int) (w : World) (hA : View w A n p) (hn : n ≤ 1099511627776) (h : ¬ ((Valid n p ∧ 0 ≤ x ∧ x < n) ∧ 0 ≤ z ∧ z ≤ 1000000)) :
    Calls Try.prog 39 #[.slice A n c, .int .i64 x, .int .i64 z] w (RetInt w (-1)) := by
  by_cases hv : Valid n p ∧ 0 ≤ x ∧ x < n
  · obtain ⟨y, rfl⟩ : ∃ y : Nat, x = y := ⟨x.toNat, by omega⟩
    have hx : y < n := by omega
    have HV := Lib.hid hv.1
    by_cases h0 : 0 ≤ z
    · have h1 : 1000000 < z := by
        have : ¬ z ≤ 1000000 := fun h1 => h ⟨hv, h0, h1⟩
        omega
      clear hv h
      go_enter Try.func39, Try.ntmps39
      go_wp2_with fail
      refine (thingOk_yes _ _ _ _ _ _ hA HV.out hx).mono ?_
      rintro e w_ ⟨rfl, rfl⟩
      go_wp2
      go_ret
      exact ⟨rfl, Below.refl _ _⟩
    · clear hv h
      go_enter Try.func39, Try.ntmps39
      go_wp2_with fail
      refine (thingOk_yes _ _ _ _ _ _ hA HV.out hx).mono ?_
      rintro e w_ ⟨rfl, rfl⟩
      go_wp2
      go_ret
      exact ⟨rfl, Below.refl _ _⟩
  · have HV := Lib.hid hv
    clear hv h
    go_enter Try.func39, Try.ntmps39
    go_wp2_with fail
    refine (thingOk_no _ _ _ _ _ _ hA hn HV.out).mono ?_
    rintro e w_ ⟨rfl, rfl⟩
    go_wp2
    go_ret
    exact ⟨rfl, Below.refl _ _⟩

end Go.Proofs.Ytanncngbmgopnaa
