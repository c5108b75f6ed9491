/- spec.PowerOf: a map put behind itself some times. Conditions: a map and a number from 0 to 1000000, or none. -/
import Derived.Test.YtanncngbmgopnaaBehindOf
import Derived.Test.YtanncngbmgopnaaSameOf
import Derived.Test.YtanncngbmgopnaaAppView
import Derived.Test.YtanncngbmgopnaaMath
import Derived.Test.YtanncngbmgopnaaL1In
namespace Go.Proofs.Ytanncngbmgopnaa
open Go.RowKit
set_option linter.unusedVariables false

/-- m steps on, as a map. -/
def pw (s : Nat → Nat) (m : Nat) (k : Nat) : Nat := it s m k
theorem pw_mp {n : Nat} {s : Nat → Nat} (h : Mp n s) (m : Nat) : Mp n (pw s m) := ⟨h.1, h.2.1, fun k hk => it_lt h hk m⟩
theorem behind_pw (s : Nat → Nat) (a b : Nat) : behind (pw s a) (pw s b) = pw s (b + a) := funext fun k => (it_add s b a k).symm
theorem behind_one (s : Nat → Nat) (a : Nat) : behind (pw s a) s = pw s (a + 1) := rfl
theorem self_pw (n : Nat) (s : Nat → Nat) : lst n self = lst n (up (pw s 0)) := rfl
theorem one_pw (s : Nat → Nat) : s = pw s 1 := rfl

set_option maxHeartbeats 1000000 in
theorem sPowerOf_yes (A : Option Addr) (n c m : Nat) (s : Nat → Nat) (w : World) (hA : View w A n (up s)) (hs : Mp n s) (hm : m ≤ 1000000) :
    Calls Try.prog 89 #[.slice A n c, .int .i64 m] w (RetOwn w (lst n (up (pw s m)))) := by
  have hn1 := hs.1
  have h7 := hs.2.1
  have HS := Lib.hid hs
  clear hs
  obtain ⟨g, off, rfl, hg, hc⟩ := hA (by omega)
  have HC := Lib.hid hc
  clear hc
  go_enter Try.func89, Try.ntmps89
  go_wp2_with fail
  refine (sMapOk_yes _ _ _ _ _ hA HS.out.valid).mono ?_
  rintro e w_ ⟨rfl, rfl⟩
  go_wp2_with fail
  refine (l1In_yes _ _ _ _ (by omega) (by omega)).mono ?_
  rintro e w_ ⟨rfl, rfl⟩
  go_wp2_with fail
  refine ((sSameOf_yes n _ hn1 h7).mono (R' := RetL w n (up (pw s 0))) fun e w' ⟨v, h1, h2, h3⟩ => RetOwn.lst_ (RetOwn.of_ h1 h2 h3)).mono ?_
  rintro e w1 ⟨A1, c1, rfl, o1, b1⟩
  have hC1 : ∀ k, k < n → (w1.alloc (.cells #[] 3)).cell? ⟨g, off + k, none⟩ = some (.int .i64 (up s k)) := fun k hk =>
    ((below_empty w1).cell (p := ⟨g, off + k, none⟩) (Nat.lt_of_lt_of_le hg b1.size)).trans ((b1.cell (p := ⟨g, off + k, none⟩) hg).trans (HC.out k hk))
  have HC1 := Lib.hid hC1
  clear hC1
  have o1' := Own.below o1 (below_empty w1)
  have b1' := below_more b1 (below_empty w1)
  go_wp2_with (at_builtin; refine wpList_appView rfl (.tmp 20) (.tmp 21) rfl w.heap.size _ _ rfl ((own_empty w1).mono b1.size) g off n c (up s) rfl HC1.out (by simp; omega) b1'.size ?_; intro v2 w2 o2 g2 b2)
  -- the row that grew is not the one of SameOf
  have q1 := Own.block o1
  have o1'' : Own w2 w.heap.size (.slice A1 n c1) (lst n (up (pw s 0))) := Own.kept o1' g2 (by
    cases e1 : (Value.slice A1 n c1).ownBlock with
    | none => exact .inl rfl
    | some k =>
      refine .inr fun e2 => ?_
      have h1 := (q1 k e1).2
      have h2 : w1.heap.size = k := by
        have : some w1.heap.size = some k := e2.symm
        injection this
      omega)
  have b2' := b1'.trans b2
  clear o1 o1' b1 b1' q1 g2 b2
  rw [List.nil_append] at o2
  obtain ⟨A2, c2, hv2, _⟩ := o2.form
  rw [length_lst] at hv2
  subst hv2
  go_wp2
  go_loopw [5, 6, 7] (fun u v i wr => ∃ (a b j : Nat) (A5 A6 : Option Addr) (c5 c6 : Nat), u = .slice A5 n c5 ∧ v = .slice A6 n c6 ∧ i = .int .i64 j ∧ j ≤ 1000000 ∧ Hid (b * j + a = m) ∧
    Own wr w.heap.size (.slice A5 n c5) (lst n (up (pw s a))) ∧ Own wr w.heap.size (.slice A6 n c6) (lst n (up (pw s b))) ∧ Below w.heap.size w wr) (fun _ _ i _ => (intOf i).toNat)
  case atStart => exact ⟨0, 1, m, A1, A2, c1, c2, rfl, rfl, rfl, hm, Lib.hid (by omega), o1'', o2, b2'⟩
  case round =>
    obtain ⟨a, b, j, A5, A6, c5, c6, rfl, rfl, rfl, hj, hab, o5, o6, hb⟩ := hrel
    by_cases hpos : 0 < j
    · by_cases hodd : j % 2 = 1
      · have ht : ((j : Int) % 2 == 1) = true := by simp; omega
        have HO := Lib.hid hodd
        clear hodd
        go_wp2_with fail
        refine ((sBehindOf_yes _ _ _ _ _ _ _ _ o5.viewL o6.viewL (pw_mp HS.out a) (pw_mp HS.out b)).mono fun _ _ h => RetOwn.lst_ h).mono ?_
        rintro e w3 ⟨A7, c7, rfl, o7, b7⟩
        replace o6 := Own.below o6 b7
        replace o7 := Own.mono o7 hb.size
        replace hb := below_more hb b7
        clear b7 o5
        go_wp2_with fail
        refine ((sBehindOf_yes _ _ _ _ _ _ _ _ o6.viewL o6.viewL (pw_mp HS.out b) (pw_mp HS.out b)).mono fun _ _ h => RetOwn.lst_ h).mono ?_
        rintro e w4 ⟨A8, c8, rfl, o8, b8⟩
        replace o7 := Own.below o7 b8
        replace o8 := Own.mono o8 hb.size
        replace hb := below_more hb b8
        clear b8 o6
        rw [behind_pw] at o7 o8
        go_wp2
        go_roundw
        case rel => exact ⟨b + a, b + b, j / 2, A7, A8, c7, c8, rfl, rfl, by go_num, by omega, Lib.hid (by
          have h1 := hab.out
          have h2 := HO.out
          have h3 : j = 2 * (j / 2) + 1 := by omega
          rw [h3, Nat.mul_add, Nat.mul_one, ← Nat.mul_assoc, Nat.mul_comm b 2, Nat.two_mul] at h1
          omega), o7, o8, hb⟩
        case measure => simp [intOf]; omega
      · have ht : ((j : Int) % 2 == 1) = false := by simp; omega
        have HO := Lib.hid hodd
        clear hodd
        go_wp2_with fail
        refine ((sBehindOf_yes _ _ _ _ _ _ _ _ o6.viewL o6.viewL (pw_mp HS.out b) (pw_mp HS.out b)).mono fun _ _ h => RetOwn.lst_ h).mono ?_
        rintro e w4 ⟨A8, c8, rfl, o8, b8⟩
        replace o5 := Own.below o5 b8
        replace o8 := Own.mono o8 hb.size
        replace hb := below_more hb b8
        clear b8 o6
        rw [behind_pw] at o8
        go_wp2
        go_roundw
        case rel => exact ⟨a, b + b, j / 2, A5, A8, c5, c8, rfl, rfl, by go_num, by omega, Lib.hid (by
          have h1 := hab.out
          have h2 := HO.out
          have h3 : j = 2 * (j / 2) := by omega
          rw [h3, ← Nat.mul_assoc, Nat.mul_comm b 2, Nat.two_mul] at h1
          omega), o5, o8, hb⟩
        case measure => simp [intOf]; omega
    · obtain rfl : j = 0 := by omega
      have e : a = m := by have := hab.out; omega
      have HE := Lib.hid e
      clear e
      go_wp2
      go_ret
      rw [HE.out] at o5
      exact RetOwn.of_ rfl o5 hb

set_option maxHeartbeats 400000 in
theorem sPowerOf_no (A : Option Addr) (n c : Nat) (z : Int) (p : Nat → Int) (w : World) (hA : View w A n p) (hn : n ≤ 1099511627776) (h : ¬ (Valid n p ∧ 0 ≤ z ∧ z ≤ 1000000)) :
    Calls Try.prog 89 #[.slice A n c, .int .i64 z] w (RetOwn w []) := by
  by_cases hv : Valid n p
  · have hz : ¬ (0 ≤ z ∧ z ≤ 1000000) := fun hz => h ⟨hv, hz⟩
    have HV := Lib.hid hv
    have HZ := Lib.hid hz
    clear hv hz h
    go_enter Try.func89, Try.ntmps89
    go_wp2_with fail
    refine (sMapOk_yes _ _ _ _ _ hA HV.out).mono ?_
    rintro e w_ ⟨rfl, rfl⟩
    go_wp2_with fail
    refine (l1In_no _ _ _ _ HZ.out).mono ?_
    rintro e w_ ⟨rfl, rfl⟩
    go_wp2
    go_ret
    exact RetOwn.of_ rfl (own_empty w) (below_empty w)
  · have HV := Lib.hid hv
    clear hv h
    go_enter Try.func89, Try.ntmps89
    go_wp2_with fail
    refine (sMapOk_no _ _ _ _ _ hA HV.out hn).mono ?_
    rintro e w_ ⟨rfl, rfl⟩
    go_wp2
    go_ret
    exact RetOwn.of_ rfl (own_empty w) (below_empty w)

end Go.Proofs.Ytanncngbmgopnaa
