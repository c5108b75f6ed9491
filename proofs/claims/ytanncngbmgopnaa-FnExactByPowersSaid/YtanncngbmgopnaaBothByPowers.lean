/- spec.ByPowers and impl.ByPowers answer alike, for every row and every number. Condition: the length's bound. -/
import Derived.Test.YtanncngbmgopnaaByPowers
namespace Go.Proofs.Ytanncngbmgopnaa
open Go.RowKit

theorem bothByPowers (n : Nat) (p : Nat → Int) (hn : n ≤ 1048576) (z : Int) (y : -9223372036854775808 ≤ z ∧ z ≤ 9223372036854775807) :
    ∃ (a b c : Int) (t : Bool), (∀ A d w, View w A n p → Calls Try.prog 34 #[.slice A n d, .int .i64 z] w (RetFound w a b c t)) ∧ (∀ A d w, View w A n p → Calls Try.prog 35 #[.slice A n d, .int .i64 z] w (RetFound w a b c t)) := by
  by_cases h : Valid n p ∧ 0 ≤ z ∧ z < n
  · obtain ⟨hv, h0, h1⟩ := h
    obtain ⟨hs, es⟩ := hv.mp
    obtain ⟨x, rfl⟩ : ∃ x : Nat, z = x := ⟨z.toNat, by omega⟩
    have hx : x < n := by omega
    obtain ⟨t, l, hle, hr⟩ := rho_ex hs hx
    obtain ⟨P, hp⟩ := pow_ex hle hs.2.1 hr
    exact ⟨_, _, _, _, fun A c w hA => sByPowers_yes A n c x t l P _ w (hA.congr es) hs hx hr hp, fun A c w hA => byPowers_yes A n c x t l P _ w (hA.congr es) hs hx hr hp⟩
  · exact ⟨0, 0, 0, false, fun A c w hA => sByPowers_no A n c z p w hA (by omega) h, fun A c w hA => byPowers_no A n c z p w hA (by omega) h⟩

end Go.Proofs.Ytanncngbmgopnaa
