/- The program's and the reference's MapText. Conditions: a map, or none. -/
import Derived.Test.YtanncngbmgopnaaTxt
namespace Go.Proofs.Ytanncngbmgopnaa
open Go.RowKit
set_option linter.unusedVariables false

/-- The text of one digit. -/
def dg (v : Nat) : ByteArray := ⟨#[UInt8.ofNat (48 + v)]⟩
theorem txt_dg (n : Nat) (s : Nat → Nat) : txt n s ++ dg (s n) = txt (n + 1) s := txt_succ n s

/-- A text is handed back. -/
def RetStr (w : World) (t : ByteArray) (e : Ending) (w' : World) : Prop := e = .returned (.string t) ∧ Below w.heap.size w w'

set_option maxHeartbeats 1000000 in
theorem mapText_yes (A : Option Addr) (n c : Nat) (s : Nat → Nat) (w : World) (hA : View w A n (up s)) (hs : Mp n s) :
    Calls Try.prog 17 #[.slice A n c] w (RetStr w (txt n s)) := by
  have hn7 := hs.2.1
  have HS := Lib.hid hs
  have HD : Hid (∀ k, k < n → s k < 10) := Lib.hid (fun k hk => by have := hs.lt hk; omega)
  clear hs
  go_enter Try.func17, Try.ntmps17
  go_wp2_with fail
  refine (mapOk_yes _ _ _ _ _ hA HS.out.valid).mono ?_
  rintro e w_ ⟨rfl, rfl⟩
  go_wp2_with fail
  refine (digitsOf_any _ _ _ s _ hA hn7 HD.out).mono ?_
  rintro e w1 ⟨rfl, b1⟩
  go_wp2
  go_ret
  exact ⟨rfl, b1⟩

set_option maxHeartbeats 1000000 in
theorem mapText_no (A : Option Addr) (n c : Nat) (p : Nat → Int) (w : World) (hA : View w A n p) (hn : n ≤ 1099511627776) (hv : ¬ Valid n p) :
    Calls Try.prog 17 #[.slice A n c] w (RetStr w ⟨#[]⟩) := by
  have HV := Lib.hid hv
  clear hv
  go_enter Try.func17, Try.ntmps17
  go_wp2_with fail
  refine (mapOk_no _ _ _ _ _ hA HV.out hn).mono ?_
  rintro e w_ ⟨rfl, rfl⟩
  go_wp2
  go_ret
  exact ⟨rfl, Below.refl _ _⟩

set_option maxHeartbeats 1000000 in
theorem l1Number_any (v : Nat) (hv : v < 10) (w : World) :
    Calls Try.prog 59 #[.int .i64 v] w (RetStr w (dg v)) := by
  have how : OwnB (w.alloc (.cells #[.int .u8 (48 + (v : Int))] 5)) w.heap.size (.slice (some ⟨w.heap.size, 0, none⟩) 1 1) (digN 1 (fun _ => v)) :=
    World.ownsRow_lit w #[.int .u8 (48 + (v : Int))] 1 (Nat.le_refl _) (by unfold maxLen; omega) rfl
  have hcv := conv_digits how (fun _ _ => hv)
  have hbl : Below w.heap.size w (w.alloc (.cells #[.int .u8 (48 + (v : Int))] 5)) := (Below.refl _ _).alloc (Nat.le_refl _) _
  clear how
  go_enter Try.func59, Try.ntmps59
  go_wp2
  go_ret
  exact ⟨rfl, hbl⟩

set_option maxHeartbeats 1000000 in
theorem sMapText_yes (A : Option Addr) (n c : Nat) (s : Nat → Nat) (w : World) (hA : View w A n (up s)) (hs : Mp n s) :
    Calls Try.prog 15 #[.slice A n c] w (RetStr w (txt n s)) := by
  have hn7 := hs.2.1
  have HS := Lib.hid hs
  clear hs
  go_enter Try.func15, Try.ntmps15
  go_wp2
  go_loopw [3, 4] (fun v i wr => ∃ k : Nat, k ≤ n ∧ i = .int .i64 k ∧ v = .string (txt k s) ∧ Below w.heap.size w wr) (fun _ i _ => n - (intOf i).toNat)
  case atStart => exact ⟨0, Nat.zero_le _, rfl, rfl, Below.refl _ _⟩
  case round =>
    obtain ⟨k, hk, rfl, rfl, hb⟩ := hrel
    have hA' := hA.below hb
    have HB := Lib.hid hb
    clear hb
    by_cases hlt : k < n
    · obtain ⟨g, off, rfl, hg, hc⟩ := hA' (by omega)
      have c1 : wr.cell? ⟨g, off + k, none⟩ = some (.int .i64 (s k : Int)) := hc k hlt
      have hsk : s k < 10 := by have := HS.out.lt hlt; omega
      have hadd : ∀ w : World, (Op.stringOp .add (txt k s) (dg (s k))).run Try.prog w = .ok (.string (txt (k + 1) s)) w := fun w => by
        have h := run_string_add_sum (P := Try.prog) (w := w) (txt k s) (dg (s k)) (by rw [txt_size]; show k + 1 ≤ _; omega)
        rw [txt_dg] at h
        exact h
      have HADD := Lib.hid hadd
      clear hc hadd
      go_wp2_with fail
      refine (sMapOk_yes _ _ _ _ _ hA' HS.out.valid).mono ?_
      rintro e w_ ⟨rfl, rfl⟩
      go_wp2_with fail
      refine (l1Number_any (s k) hsk _).mono ?_
      rintro e w1 ⟨rfl, b1⟩
      have B1 := Lib.hid (below_more HB.out b1)
      have hadd := HADD.out w1
      clear b1 c1 HADD
      go_wp2
      go_roundw
      case rel => exact ⟨k + 1, by omega, by go_num, rfl, B1.out⟩
      case measure => simp [intOf]; omega
    · obtain rfl : k = n := by omega
      go_wp2
      go_ret
      exact ⟨rfl, HB.out⟩

set_option maxHeartbeats 1000000 in
theorem sMapText_no (A : Option Addr) (n c : Nat) (p : Nat → Int) (w : World) (hA : View w A n p) (hn : n ≤ 1099511627776) (hv : ¬ Valid n p) :
    Calls Try.prog 15 #[.slice A n c] w (RetStr w ⟨#[]⟩) := by
  have HV := Lib.hid hv
  clear hv
  by_cases h0 : 0 < n
  · go_enter Try.func15, Try.ntmps15
    go_wp2
    refine wp_loop_rounds 1 ?_
    rw [rounds_succ]
    go_wp2_with fail
    refine (sMapOk_no _ _ _ _ _ hA HV.out hn).mono ?_
    rintro e w_ ⟨rfl, rfl⟩
    go_wp2
    go_ret
    exact ⟨rfl, Below.refl _ _⟩
  · go_enter Try.func15, Try.ntmps15
    go_wp2
    refine wp_loop_rounds 1 ?_
    rw [rounds_succ]
    go_wp2
    go_ret
    exact ⟨rfl, Below.refl _ _⟩

end Go.Proofs.Ytanncngbmgopnaa
