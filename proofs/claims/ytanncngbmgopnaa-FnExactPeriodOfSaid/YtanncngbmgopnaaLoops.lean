/- The program's and the reference's LoopsOf. Conditions: a map, or none. -/
import Derived.Test.YtanncngbmgopnaaHeadsD
import Derived.Test.YtanncngbmgopnaaSS
import Derived.Test.YtanncngbmgopnaaOnLoop
import Derived.Test.YtanncngbmgopnaaWalked
import Derived.Test.YtanncngbmgopnaaWay
namespace Go.Proofs.Ytanncngbmgopnaa
open Go.RowKit
set_option linter.unusedVariables false

/-- What the loops of both hold at each round. -/
def Lp (w wr : World) (s : Nat → Nat) (v : Value) (k : Nat) (vs : Nat → Value) : Prop := OwnSS wr w.heap.size v (heads s k).length vs (rows s k) ∧ Below w.heap.size w wr

theorem Lp.miss {w wr w' : World} {s : Nat → Nat} {v : Value} {k : Nat} {vs : Nat → Value} (h : Lp w wr s v k vs) (hb : Below wr.heap.size wr w') (hm : ¬ lot s k = (k : Int)) : Lp w w' s v (k + 1) vs := by
  unfold Lp
  rw [heads_miss hm]
  exact ⟨(h.1.below hb).congr (fun _ _ => rfl) (fun i _ => rows_miss hm i), below_more h.2 hb⟩
theorem Lp.hit {w w' : World} {s : Nat → Nat} {v : Value} {k : Nat} {vs : Nat → Value} (hm : lot s k = (k : Int)) (h : OwnSS w' w.heap.size v ((heads s k).length + 1) vs (fun i => if i < (heads s k).length then rows s k i else rowOf s k)) (hb : Below w.heap.size w w') : Lp w w' s v (k + 1) vs := by
  unfold Lp
  have e : (heads s (k + 1)).length = (heads s k).length + 1 := by rw [heads_hit hm]; simp
  rw [e]
  exact ⟨h.congr (fun _ _ => rfl) (fun i hi => rows_hit hm i hi), hb⟩
/-- A new row's block is none of those that were there. -/
theorem new_ap {w w1 : World} {base n : Nat} {v v1 : Value} {vs : Nat → Value} {xs : Nat → List Int} {ys : List Int} (h : OwnSS w base v n vs xs) (h1 : Own w1 w.heap.size v1 ys) : ∀ i, i < n → Ap (vs i) v1 ∧ Ap v1 (vs i) := fun i hi =>
  ⟨ap_ranges ((h.2.1 i hi).block) h1.block (.inl (Nat.le_refl _)), ap_ranges h1.block ((h.2.1 i hi).block) (.inr (Nat.le_refl _))⟩

set_option maxHeartbeats 1000000 in
theorem loopsOf_yes (A : Option Addr) (n c : Nat) (s : Nat → Nat) (w : World) (hA : View w A n (up s)) (hs : Mp n s) :
    Calls Try.prog 24 #[.slice A n c] w (RetSS w (heads s n).length (rows s n)) := by
  have hn7 := hs.2.1
  have HS := Lib.hid hs
  clear hs
  go_enter Try.func24, Try.ntmps24
  go_wp2_with fail
  refine (mapOk_yes _ _ _ _ _ hA HS.out.valid).mono ?_
  rintro e w_ ⟨rfl, rfl⟩
  go_wp2
  go_loopw [3, 10] (fun v i wr => ∃ (k : Nat) (vs : Nat → Value), k ≤ n ∧ i = .int .i64 k ∧ Lp w wr s v k vs) (fun _ i _ => n - (intOf i).toNat)
  case atStart => exact ⟨0, fun _ => undef, Nat.zero_le _, rfl, OwnSS.nil _ _ _ _, Below.refl _ _⟩
  case round =>
    obtain ⟨k, vs, hk, rfl, lp⟩ := hrel
    have LP := Lib.hid lp
    have hA' := hA.below lp.2
    clear lp
    by_cases hlt : k < n
    · have HR := Lib.hid (rho_is HS.out hlt)
      go_wp2_with fail
      refine ((loopOf_yes _ _ _ _ _ _ _ _ hA' HS.out hlt HR.out).mono (R' := RetInt wr (lot s k)) fun _ _ h => h).mono ?_
      rintro e w1 ⟨rfl, b1⟩
      have hA1 := hA'.below b1
      by_cases hm : lot s k = (k : Int)
      · have ht : (lot s k == (k : Int)) = true := by simp [hm]
        have HM := Lib.hid hm
        have O1 := Lib.hid (LP.out.1.below b1)
        have B1 := Lib.hid (below_more LP.out.2 b1)
        clear hm b1
        go_wp2_with fail
        refine ((wayFrom_yes _ _ _ _ _ _ _ _ hA1 HS.out hlt HR.out).mono (R' := RetOwn w1 (rowOf s k)) fun _ _ h => h).mono ?_
        rintro e w2 ⟨A2, c2, rfl, o2, b2⟩
        have HO := Lib.hid (O1.out.below b2)
        have B2 := Lib.hid (below_more B1.out b2)
        have HAP := Lib.hid (new_ap O1.out o2)
        have HO2 := Lib.hid (o2.mono B1.out.size)
        have hhl := heads_le s k
        have hsz := B2.out.size
        clear o2 b2 O1 B1
        go_wp2_with (at_builtin; refine wpList_appSS rfl (.tmp 18) (.tmp 22) rfl w.heap.size _ _ vs _ rfl HO.out _ _ HO2.out HAP.out rfl (by omega) hsz ?_; intro v3 w3 how3 hb3)
        have L3 := Lib.hid (Lp.hit HM.out how3 (B2.out.trans hb3))
        clear how3 hb3 ht
        go_roundw
        case rel => exact ⟨k + 1, _, by omega, by go_num, L3.out⟩
        case measure => simp [intOf]; omega
      · have ht : (lot s k == (k : Int)) = false := by simpa using hm
        have L3 := Lib.hid (LP.out.miss b1 hm)
        clear hm b1 LP
        go_wp2
        go_roundw
        case rel => exact ⟨k + 1, _, by omega, by go_num, L3.out⟩
        case measure => simp [intOf]; omega
    · obtain rfl : k = n := by omega
      go_wp2
      go_ret
      exact RetSS.of_ rfl LP.out.1 LP.out.2

set_option maxHeartbeats 400000 in
theorem loopsOf_no (A : Option Addr) (n c : Nat) (p : Nat → Int) (xs : Nat → List Int) (w : World) (hA : View w A n p) (hn : n ≤ 1099511627776) (hv : ¬ Valid n p) :
    Calls Try.prog 24 #[.slice A n c] w (RetSS w 0 xs) := by
  have HV := Lib.hid hv
  clear hv
  go_enter Try.func24, Try.ntmps24
  go_wp2_with fail
  refine (mapOk_no _ _ _ _ _ hA HV.out hn).mono ?_
  rintro e w_ ⟨rfl, rfl⟩
  go_wp2
  go_ret
  exact RetSS.of_ rfl (OwnSS.nil _ _ (fun _ => undef) _) (Below.refl _ _)

end Go.Proofs.Ytanncngbmgopnaa
