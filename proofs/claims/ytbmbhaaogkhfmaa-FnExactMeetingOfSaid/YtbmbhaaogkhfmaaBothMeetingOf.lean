/- spec.MeetingOf and impl.MeetingOf answer alike, for every row and every number. Condition: the length's bound. -/
import Derived.Test.YtbmbhaaogkhfmaaMeetingOf
namespace Go.Proofs.Ytbmbhaaogkhfmaa
open Go.RowKit

theorem bothMeetingOf (n : Nat) (p : Nat → Int) (hn : n ≤ 1048576) (z : Int) (y : -9223372036854775808 ≤ z ∧ z ≤ 9223372036854775807) :
    ∃ (a b : Int) (t : Bool), (∀ A c w, View w A n p → Calls Try.prog 39 #[.slice A n c, .int .i64 z] w (RetTri w a b t)) ∧ (∀ A c w, View w A n p → Calls Try.prog 40 #[.slice A n c, .int .i64 z] w (RetTri w a b t)) := by
  by_cases h : Valid n p ∧ 0 ≤ z ∧ z < n
  · obtain ⟨hv, h0, h1⟩ := h
    obtain ⟨hs, es⟩ := hv.mp
    obtain ⟨x, rfl⟩ : ∃ x : Nat, z = x := ⟨z.toNat, by omega⟩
    have hx : x < n := by omega
    obtain ⟨t, l, hle, hr⟩ := rho_ex hs hx
    obtain ⟨m, _, hm⟩ := meet_ex hr
    exact ⟨_, _, _, fun A c w hA => sMeetingOf_yes A n c x t l m _ w (hA.congr es) hs hx hr hm, fun A c w hA => meetingOf_yes A n c x t l m _ w (hA.congr es) hs hx hr hm⟩
  · exact ⟨-1, -1, false, fun A c w hA => sMeetingOf_no A n c z p w hA (by omega) h, fun A c w hA => meetingOf_no A n c z p w hA (by omega) h⟩

end Go.Proofs.Ytbmbhaaogkhfmaa
