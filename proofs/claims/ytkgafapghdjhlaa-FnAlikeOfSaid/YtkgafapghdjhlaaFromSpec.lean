/- spec.FromOf: the things that a map leads to a thing. Conditions: a map, or none. -/
import Derived.Test.YtkgafapghdjhlaaApp
import Derived.Test.YtkgafapghdjhlaaFib
import Derived.Test.YtkgafapghdjhlaaOkSpec
namespace Go.Proofs.Ytkgafapghdjhlaa
open Go.RowKit
set_option linter.unusedVariables false

theorem own_none (w : World) : Own (w.alloc (.cells #[] 3)) w.heap.size (.slice (some ⟨w.heap.size, 0, none⟩) 0 0) [] := World.ownsRow_lit w #[] 0 (Nat.le_refl _) (Nat.zero_le _) rfl
theorem below_none (w : World) : Below w.heap.size w (w.alloc (.cells #[] 3)) := (Below.refl _ _).alloc (Nat.le_refl _) _

set_option maxHeartbeats 1000000 in
theorem sFromOf_yes (A : Option Addr) (n c : Nat) (z : Int) (s : Nat → Nat) (w : World) (hA : View w A n (up s)) (hs : Mp n s) :
    Calls Try.prog 33 #[.slice A n c, .int .i64 z] w (RetOwn w (fromTo s z n)) := by
  have h1 := hs.1
  have h7 := hs.2.1
  have HS := Lib.hid hs
  clear hs
  go_enter Try.func33, Try.ntmps33
  go_wp2
  go_loopw [5, 6] (fun v i wr => ∃ k : Nat, k ≤ n ∧ i = .int .i64 k ∧ Own wr w.heap.size v (fromTo s z k) ∧ Below w.heap.size w wr) (fun _ i _ => n - (intOf i).toNat)
  case atStart => exact ⟨0, Nat.zero_le _, rfl, own_none w, below_none w⟩
  case round =>
    obtain ⟨k, hk, rfl, how, hb⟩ := hrel
    have hA' := hA.below hb
    by_cases hlt : k < n
    · obtain ⟨g, off, rfl, hg, hc⟩ := hA' (by omega)
      have hlen := length_fromTo s z k
      have c1 : wr.cell? ⟨g, off + k, none⟩ = some (.int .i64 (s k : Int)) := hc k hlt
      clear hc
      by_cases he : (s k : Int) = z
      · have ht : ((s k : Int) == z) = true := by simpa using he
        have hh := fromTo_hit he
        have HE := Lib.hid hh
        clear he hh
        go_wp2_with fail
        refine (sMapOk_yes _ _ _ _ _ hA' HS.out.valid).mono ?_
        rintro e w_ ⟨rfl, rfl⟩
        go_wp2_with (at_builtin; refine wpList_app1 rfl (.tmp 24) (.tmp 26) rfl w.heap.size _ _ rfl how _ rfl (by omega) hb.size ?_; intro v1 w1 how1 _ hb1)
        have how2 : Own w1 w.heap.size v1 (fromTo s z (k + 1)) := by rw [HE.out]; exact how1
        clear how1
        go_roundw
        case rel => exact ⟨k + 1, by omega, by go_num, how2, hb.trans hb1⟩
        case measure => simp [intOf]; omega
      · have ht : ((s k : Int) == z) = false := by simpa using he
        have hh := fromTo_miss he
        have HE := Lib.hid hh
        clear he hh
        go_wp2_with fail
        refine (sMapOk_yes _ _ _ _ _ hA' HS.out.valid).mono ?_
        rintro e w_ ⟨rfl, rfl⟩
        go_wp2
        go_roundw
        case rel => exact ⟨k + 1, by omega, by go_num, by rw [HE.out]; exact how, hb⟩
        case measure => simp [intOf]; omega
    · obtain rfl : k = n := by omega
      go_wp2
      go_ret
      exact RetOwn.of_ rfl how hb

set_option maxHeartbeats 400000 in
theorem sFromOf_no (A : Option Addr) (n c : Nat) (z : Int) (p : Nat → Int) (w : World) (hA : View w A n p) (hn : n ≤ 1099511627776) (hv : ¬ Valid n p) :
    Calls Try.prog 33 #[.slice A n c, .int .i64 z] w (RetOwn w []) := by
  have HV := Lib.hid hv
  clear hv
  by_cases h0 : 0 < n
  · go_enter Try.func33, Try.ntmps33
    go_wp2
    refine wp_loop_rounds 1 ?_
    rw [rounds_succ]
    go_wp2_with fail
    refine (sMapOk_no _ _ _ _ _ (hA.below (below_none w)) HV.out hn).mono ?_
    rintro e w_ ⟨rfl, rfl⟩
    go_wp2
    go_ret
    exact RetOwn.of_ rfl (own_none w) (below_none w)
  · go_enter Try.func33, Try.ntmps33
    go_wp2
    refine wp_loop_rounds 1 ?_
    rw [rounds_succ]
    go_wp2
    go_ret
    exact RetOwn.of_ rfl (own_none w) (below_none w)

end Go.Proofs.Ytkgafapghdjhlaa
