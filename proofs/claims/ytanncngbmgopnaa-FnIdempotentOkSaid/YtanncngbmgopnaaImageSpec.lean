/- spec.ImageOf: the things to which something is led. Conditions: a map, or none. -/
import Derived.Test.YtanncngbmgopnaaApp
import Derived.Test.YtanncngbmgopnaaImageD
import Derived.Test.YtanncngbmgopnaaOkSpec
namespace Go.Proofs.Ytanncngbmgopnaa
open Go.RowKit
set_option linter.unusedVariables false

theorem own_img (w : World) : Own (w.alloc (.cells #[] 3)) w.heap.size (.slice (some ⟨w.heap.size, 0, none⟩) 0 0) [] := World.ownsRow_lit w #[] 0 (Nat.le_refl _) (Nat.zero_le _) rfl
theorem below_img (w : World) : Below w.heap.size w (w.alloc (.cells #[] 3)) := (Below.refl _ _).alloc (Nat.le_refl _) _

set_option maxHeartbeats 1000000 in
theorem sImageOf_yes (A : Option Addr) (n c : Nat) (s : Nat → Nat) (w : World) (hA : View w A n (up s)) (hs : Mp n s) :
    Calls Try.prog 47 #[.slice A n c] w (RetOwn w (imgTo s n n)) := by
  have h1 := hs.1
  have h7 := hs.2.1
  have HS := Lib.hid hs
  clear hs
  go_enter Try.func47, Try.ntmps47
  go_wp2
  go_loopw [3, 4] (fun v i wr => ∃ k : Nat, k ≤ n ∧ i = .int .i64 k ∧ Own wr w.heap.size v (imgTo s n k) ∧ Below w.heap.size w wr) (fun _ i _ => n - (intOf i).toNat)
  case atStart => exact ⟨0, Nat.zero_le _, rfl, own_img w, below_img w⟩
  case round =>
    obtain ⟨k, hk, rfl, how, hb⟩ := hrel
    have hA' := hA.below hb
    by_cases hlt : k < n
    · have hlen := length_imgTo s n k
      have HO := Lib.hid how
      have HB := Lib.hid hb
      clear how
      go_wp2_with fail
      refine (sMapOk_yes _ _ _ _ _ hA' HS.out.valid).mono ?_
      rintro e w_ ⟨rfl, rfl⟩
      go_wp2
      go_loopw [3, 5] (fun v i w2 => ∃ j : Nat, j ≤ n ∧ i = .int .i64 j ∧ (∀ q, q < j → s q ≠ k) ∧ Own w2 w.heap.size v (imgTo s n k) ∧ wr = w2) (fun _ i _ => n - (intOf i).toNat)
      case atStart => exact ⟨0, Nat.zero_le _, rfl, fun q hq => absurd hq (by omega), HO.out, rfl⟩
      case round =>
        obtain ⟨j, hj, rfl, hno, how, rfl⟩ := hrel
        have HNO := Lib.hid hno
        have HO := Lib.hid how
        clear hno how
        by_cases hlj : j < n
        · obtain ⟨g, off, rfl, hg, hc⟩ := hA' (by omega)
          have c1 : wr.cell? ⟨g, off + j, none⟩ = some (.int .i64 (s j : Int)) := hc j hlj
          clear hc
          by_cases he : s j = k
          · have ht : ((s j : Int) == (k : Int)) = true := by simp [he]
            have hh := imgTo_hit hlj he
            have HE := Lib.hid hh
            clear he hh
            go_wp2_with (at_builtin; refine wpList_app1 rfl (.tmp 29) (.tmp 31) rfl w.heap.size _ _ rfl HO.out _ rfl (by omega) HB.out.size ?_; intro v1 w1 how1 _ hb1)
            have how2 : Own w1 w.heap.size v1 (imgTo s n (k + 1)) := by rw [HE.out]; exact how1
            have HO2 := Lib.hid how2
            clear how1 how2
            go_roundw
            case rel => exact ⟨k + 1, by omega, by go_num, HO2.out, HB.out.trans hb1⟩
            case measure => simp [intOf]; omega
          · have ht : ((s j : Int) == (k : Int)) = false := by simp; omega
            have HE := Lib.hid he
            clear he
            go_wp2
            go_roundw
            case rel => exact ⟨j + 1, by omega, by go_num, fun q hq => by rcases Nat.lt_succ_iff_lt_or_eq.1 hq with h3 | rfl; exact HNO.out q h3; exact HE.out, HO.out, by trivial⟩
            case measure => simp [intOf]; omega
        · obtain rfl : j = n := by omega
          have hh := imgTo_miss HNO.out
          have HE := Lib.hid hh
          clear hh
          go_wp2
          go_roundw
          case rel => exact ⟨k + 1, by omega, by go_num, by rw [HE.out]; exact HO.out, HB.out⟩
          case measure => simp [intOf]; omega
    · obtain rfl : k = n := by omega
      go_wp2
      go_ret
      exact RetOwn.of_ rfl how hb

set_option maxHeartbeats 400000 in
theorem sImageOf_no (A : Option Addr) (n c : Nat) (p : Nat → Int) (w : World) (hA : View w A n p) (hn : n ≤ 1099511627776) (hv : ¬ Valid n p) :
    Calls Try.prog 47 #[.slice A n c] w (RetOwn w []) := by
  have hA1 := hA.below (below_img w)
  have HV := Lib.hid hv
  clear hv
  go_enter Try.func47, Try.ntmps47
  go_wp2
  go_loopw [3, 4] (fun v i wr => v = .slice (some ⟨w.heap.size, 0, none⟩) 0 0 ∧ i = .int .i64 0 ∧ w.alloc (.cells #[] 3) = wr) (fun _ i _ => n - (intOf i).toNat)
  case atStart => exact ⟨rfl, rfl, rfl⟩
  case round =>
    obtain ⟨rfl, rfl, rfl⟩ := hrel
    by_cases h0 : 0 < n
    · go_wp2_with fail
      refine (sMapOk_no _ _ _ _ _ hA1 HV.out hn).mono ?_
      rintro e w_ ⟨rfl, rfl⟩
      go_wp2
      go_ret
      exact RetOwn.of_ rfl (own_img w) (below_img w)
    · obtain rfl : n = 0 := by omega
      go_wp2
      go_ret
      exact RetOwn.of_ rfl (own_img w) (below_img w)

end Go.Proofs.Ytanncngbmgopnaa
