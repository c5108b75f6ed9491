/- spec.ByTwo and impl.ByTwo answer alike, for every row and every number. Condition: the length's bound. -/
import Derived.Test.YtkgafapghdjhlaaByTwoSpec
namespace Go.Proofs.Ytkgafapghdjhlaa
open Go.RowKit

theorem bothByTwo (n : Nat) (p : Nat → Int) (hn : n ≤ 1048576) (z : Int) (y : -9223372036854775808 ≤ z ∧ z ≤ 9223372036854775807) :
    ∃ (a b c : Int) (t : Bool), (∀ A d w, View w A n p → Calls Try.prog 43 #[.slice A n d, .int .i64 z] w (RetFound w a b c t)) ∧ (∀ A d w, View w A n p → Calls Try.prog 44 #[.slice A n d, .int .i64 z] w (RetFound w a b c t)) := by
  by_cases h : Valid n p ∧ 0 ≤ z ∧ z < n
  · obtain ⟨hv, h0, h1⟩ := h
    obtain ⟨hs, es⟩ := hv.mp
    obtain ⟨x, rfl⟩ : ∃ x : Nat, z = x := ⟨z.toNat, by omega⟩
    have hx : x < n := by omega
    obtain ⟨t, l, hle, hr⟩ := rho_ex hs hx
    obtain ⟨m, _, hm⟩ := meet_ex hr
    exact ⟨_, _, _, _, fun A c w hA => sByTwo_yes A n c x t l m _ w (hA.congr es) hs hx hr hm, fun A c w hA => byTwo_yes A n c x t l m _ w (hA.congr es) hs hx hr hm⟩
  · exact ⟨0, 0, 0, false, fun A c w hA => sByTwo_no A n c z p w hA (by omega) h, fun A c w hA => byTwo_no A n c z p w hA (by omega) h⟩

end Go.Proofs.Ytkgafapghdjhlaa
