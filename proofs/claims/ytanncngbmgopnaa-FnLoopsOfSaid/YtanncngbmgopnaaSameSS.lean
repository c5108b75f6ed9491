/- laws.sameRows: rows of rows that read alike. Conditions: the lengths. -/
import Derived.Test.YtanncngbmgopnaaEqSS
import Derived.Test.YtanncngbmgopnaaSameInts
namespace Go.Proofs.Ytanncngbmgopnaa
open Go.RowKit
set_option linter.unusedVariables false

set_option maxHeartbeats 1000000 in
theorem sameRows_yes (A B : Option Addr) (n c d : Nat) (xs : Nat → List Int) (w : World) (hA : ViewSS w A n xs) (hB : ViewSS w B n xs) (hn : n ≤ 1048576) (hl : ∀ i, i < n → (xs i).length ≤ 1048576) :
    Calls Try.prog 25 #[.slice A n c, .slice B n d] w (RetBool w true) := by
  have HA := Lib.hid hA
  have HB := Lib.hid hB
  have HL := Lib.hid hl
  clear hA hB hl
  go_enter Try.func25, Try.ntmps25
  go_wp2
  go_loopw [5] (fun i wr => ∃ k : Nat, k ≤ n ∧ i = .int .i64 k ∧ Below w.heap.size w wr) (fun i _ => n - (intOf i).toNat)
  case atStart => exact ⟨0, Nat.zero_le _, rfl, Below.refl _ _⟩
  case round =>
    obtain ⟨k, hk, rfl, hb⟩ := hrel
    have BB := Lib.hid hb
    by_cases hlt : k < n
    · obtain ⟨g, off, rfl, hg, hc⟩ := (HA.out.below hb) (by omega)
      obtain ⟨g2, off2, rfl, hg2, hc2⟩ := (HB.out.below hb) (by omega)
      obtain ⟨A1, c1, d1, v1⟩ := hc k hlt
      obtain ⟨A2, c2, d2, v2⟩ := hc2 k hlt
      have V1 := Lib.hid v1
      have V2 := Lib.hid v2
      have hlk : (xs k).length ≤ 1099511627776 := by have := HL.out k hlt; omega
      have l1 : ∀ q : Later wr, q.w.cell? ⟨g, off + k, none⟩ = some (.slice A1 (xs k).length c1) := fun q => q.cell d1
      have l2 : ∀ q : Later wr, q.w.cell? ⟨g2, off2 + k, none⟩ = some (.slice A2 (xs k).length c2) := fun q => q.cell d2
      clear hc hc2 v1 v2 hb
      go_wp2_with fail
      refine wp_region_later (by kernel_rfl) (by kernel_rfl) ?_
      repeat (go_big_quiet_step ((go_at_call 33; exact later_bool (sameInts_yes _ _ _ _ _ _ _ (Later.view _ V1.out) (Later.view _ V2.out) hlk))))
      refine wpQuiet_nil ?_
      rintro _ ⟨q, rfl⟩
      have B9 := Lib.hid (below_more BB.out q.b)
      clear l1 l2
      go_wp2
      go_roundw
      case rel => exact ⟨k + 1, by omega, by go_num, B9.out⟩
      case measure => simp [intOf]; omega
    · obtain rfl : k = n := by omega
      go_wp2
      go_ret
      exact ⟨rfl, BB.out⟩

end Go.Proofs.Ytanncngbmgopnaa
