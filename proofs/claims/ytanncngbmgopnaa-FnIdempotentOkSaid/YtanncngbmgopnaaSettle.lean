/- spec.SettledOf: the first power that is idempotent. Condition: a map. -/
import Derived.Test.YtanncngbmgopnaaPowerSpec
import Derived.Test.YtanncngbmgopnaaIdem
namespace Go.Proofs.Ytanncngbmgopnaa
open Go.RowKit
set_option linter.unusedVariables false

theorem div420 {l : Nat} (h1 : 1 ≤ l) (h7 : l ≤ 7) : 420 % l = 0 := by
  have : l = 1 ∨ l = 2 ∨ l = 3 ∨ l = 4 ∨ l = 5 ∨ l = 6 ∨ l = 7 := by omega
  rcases this with rfl | rfl | rfl | rfl | rfl | rfl | rfl <;> rfl
/-- The power of 420 leads twice as once. -/
theorem twice420 {n : Nat} {s : Nat → Nat} (hs : Mp n s) : Twice n (pw s 420) := fun k hk => by
  obtain ⟨t, l, hle, hr⟩ := rho_ex hs hk
  have hl := hr.pos
  have h7 := hs.2.1
  show it s 420 (it s 420 k) = it s 420 k
  rw [← it_add]
  have e := (hr.eq_iff (420 + 420 - t) (420 - t)).2 (by
    have h := div420 hl (by omega)
    rw [show 420 + 420 - t = (420 - t) + 420 by omega, Nat.add_mod, h, Nat.add_zero, Nat.mod_mod])
  rw [show t + (420 + 420 - t) = 420 + 420 by omega, show t + (420 - t) = 420 by omega] at e
  exact e

/-- What it gives: a power, its number, true. -/
def RetSettled (w : World) (n : Nat) (s : Nat → Nat) (e : Ending) (w' : World) : Prop :=
  ∃ A c m, e = .returned (.tuple #[.slice A n c, .int .i64 ((m : Nat) : Int), .bool true]) ∧ Own w' w.heap.size (.slice A n c) (lst n (up (pw s m))) ∧ Below w.heap.size w w'

set_option maxHeartbeats 1000000 in
theorem sSettledOf_yes (A : Option Addr) (n c : Nat) (s : Nat → Nat) (w : World) (hA : View w A n (up s)) (hs : Mp n s) :
    Calls Try.prog 78 #[.slice A n c] w (RetSettled w n s) := by
  have hn1 := hs.1
  have h7 := hs.2.1
  have HS := Lib.hid hs
  have HT := Lib.hid (twice420 hs)
  clear hs
  go_enter Try.func78, Try.ntmps78
  go_wp2_with fail
  refine (sMapOk_yes _ _ _ _ _ hA HS.out.valid).mono ?_
  rintro e w_ ⟨rfl, rfl⟩
  go_wp2
  go_loopw [5] (fun i wr => ∃ m : Nat, m ≤ 420 ∧ i = .int .i64 m ∧ Below w.heap.size w wr) (fun i _ => 420 - (intOf i).toNat)
  case atStart => exact ⟨1, by omega, rfl, Below.refl _ _⟩
  case round =>
    obtain ⟨m, hm, rfl, hb⟩ := hrel
    have HB := Lib.hid hb
    have V := Lib.hid (hA.below hb)
    have HP := Lib.hid (pw_mp HS.out m)
    clear hb
    go_wp2_with fail
    refine ((sPowerOf_yes _ _ _ m s _ V.out HS.out (by omega)).mono fun _ _ h => h.lst_).mono ?_
    rintro e w2 ⟨A2, c2, rfl, o2, b2⟩
    have O2 := Lib.hid o2
    have B2 := Lib.hid (below_more HB.out b2)
    have hsz : w.heap.size ≤ wr.heap.size := HB.out.size
    clear o2 b2
    by_cases ht : Twice n (pw s m)
    · have HTT := Lib.hid ht
      clear ht
      go_wp2_with fail
      refine (sIdem_yes _ _ _ _ _ O2.out.viewL HP.out HTT.out).mono ?_
      rintro e w3 ⟨rfl, b3⟩
      have O3 := Lib.hid (O2.out.below b3)
      have B3 := Lib.hid (below_more B2.out b3)
      clear b3
      go_wp2
      go_ret3
      exact ⟨A2, c2, m, rfl, O3.out.mono hsz, B3.out⟩
    · have hlt : m < 420 := by
        rcases Nat.lt_or_ge m 420 with h | h
        · exact h
        · obtain rfl : m = 420 := by omega
          exact absurd HT.out ht
      have HTT := Lib.hid ht
      clear ht
      go_wp2_with fail
      refine (sIdem_other _ _ _ _ _ O2.out.viewL HP.out HTT.out).mono ?_
      rintro e w3 ⟨rfl, b3⟩
      have B3 := Lib.hid (below_more B2.out b3)
      clear b3
      go_wp2
      go_roundw
      case rel => exact ⟨m + 1, by omega, by go_num, B3.out⟩
      case measure => simp [intOf]; omega

end Go.Proofs.Ytanncngbmgopnaa
