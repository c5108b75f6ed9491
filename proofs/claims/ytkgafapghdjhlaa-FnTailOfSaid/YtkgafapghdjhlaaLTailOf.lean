/- laws.FnTailOf answers true. Condition: the code's bounds. -/
import Derived.Test.YtkgafapghdjhlaaDrawTailOf
import Derived.Test.YtkgafapghdjhlaaAlive
import Derived.Test.YtkgafapghdjhlaaTail
import Derived.Test.YtkgafapghdjhlaaTailSpec
import Derived.Test.YtkgafapghdjhlaaRhoD
namespace Go.Proofs.Ytkgafapghdjhlaa
open Go.RowKit
set_option linter.unusedVariables false

set_option maxHeartbeats 1000000 in
theorem lawTailOf_walk (A0 : Option Addr) (n0 c0 : Nat) (p0 : Nat → Int) (w : World) (h : Bytes w A0 n0 c0 p0) :
    Calls Try.prog 8 #[.slice A0 n0 c0] w fun e w' => e = .returned (.bool true) ∧ Below w.heap.size w w' := by
  have H := Lib.hid h
  clear h
  by_cases hbig : 1048576 < n0
  · go_enter Try.func8, Try.ntmps8
    go_wp2
    go_ret
    exact ⟨rfl, Below.refl _ _⟩
  go_enter Try.func8, Try.ntmps8
  go_wp2_with fail
  refine (drawTailOf_any A0 n0 c0 p0 w H.out).mono ?_
  rintro e w1 ⟨A, n, c, zs, x, hn8, rfl, hx1, hx2, how, hb1⟩
  have HV := Lib.hid how.viewL
  have HO := Lib.hid how
  have HB1 := Lib.hid hb1
  clear how hb1 hbig
  by_cases hv : Valid n zs ∧ 0 ≤ x ∧ x < n
  · skip
    obtain ⟨hv, hx0, hxn⟩ := hv
    obtain ⟨X, rfl⟩ : ∃ X : Nat, x = X := ⟨x.toNat, by omega⟩
    have hX : X < n := by omega
    obtain ⟨hs, hzs⟩ := hv.mp
    generalize (fun k => (zs k).toNat) = s at hs hzs
    have HS := Lib.hid hs
    have V := Lib.hid (HV.out.congr hzs)
    have hn1 := hs.1
    have hn7 := hs.2.1
    have HR := Lib.hid (rho_is hs hX)
    have HI := Lib.hid (it_lt hs hX)
    clear hs hzs hv HV HO
    have B := HB1
    clear HB1
    have hle := HR.out.le HS.out hX
    have hlp := HR.out.pos
    have HN := Lib.hid HR.out.next
    have hsX := HS.out.lt hX
    generalize (rho s X).1 = t at HR HN hle
    generalize (rho s X).2 = l at HR HN hle hlp
    go_wp2_with fail
    refine (tailOf_yes _ _ _ X t l s _ V.out HS.out hX HR.out).mono ?_
    rintro e w2 ⟨rfl, b2⟩
    replace V := Lib.hid (V.out.below b2)
    replace B := Lib.hid (below_more B.out b2)
    clear b2
    go_wp2_with fail
    refine (sTailOf_yes _ _ _ X t l s _ V.out HS.out hX HR.out).mono ?_
    rintro e w3 ⟨rfl, b3⟩
    replace V := Lib.hid (V.out.below b3)
    replace B := Lib.hid (below_more B.out b3)
    clear b3
    obtain ⟨g, off, rfl, hg, hc⟩ := V.out (by omega)
    have hcX : w3.cell? ⟨g, off + X, none⟩ = some (.int .i64 (s X : Int)) := hc X hX
    clear hc
    rcases Nat.eq_zero_or_pos t with rfl | ht
    · skip
      go_wp2_with fail
      refine (tailOf_yes _ _ _ (s X) (0 - 1) l s _ V.out HS.out hsX HN.out).mono ?_
      rintro e w4 ⟨rfl, b4⟩
      replace V := Lib.hid (V.out.below b4)
      replace B := Lib.hid (below_more B.out b4)
      clear b4
      go_wp2
      go_ret
      exact ⟨by first | rfl | exact ret_bool (by simp; omega) | exact ret_bool (by simp), B.out⟩
    · obtain ⟨T, rfl⟩ : ∃ T, t = T + 1 := ⟨t - 1, by omega⟩
      rw [Nat.add_sub_cancel] at HN
      go_wp2_with fail
      refine (tailOf_yes _ _ _ (s X) T l s _ V.out HS.out hsX HN.out).mono ?_
      rintro e w4 ⟨rfl, b4⟩
      replace V := Lib.hid (V.out.below b4)
      replace B := Lib.hid (below_more B.out b4)
      clear b4
      go_wp2
      go_ret
      exact ⟨by first | rfl | exact ret_bool (by simp; omega) | exact ret_bool (by simp), B.out⟩
  · skip
    have HA := Lib.hid hv
    have V := HV
    have B := HB1
    clear hv HV HB1
    go_wp2_with fail
    refine (tailOf_no _ _ _ x zs _ V.out (by omega) HA.out).mono ?_
    rintro e w2 ⟨rfl, b2⟩
    replace V := Lib.hid (V.out.below b2)
    replace B := Lib.hid (below_more B.out b2)
    clear b2
    go_wp2_with fail
    refine (sTailOf_no _ _ _ x zs _ V.out (by omega) HA.out).mono ?_
    rintro e w3 ⟨rfl, b3⟩
    replace V := Lib.hid (V.out.below b3)
    replace B := Lib.hid (below_more B.out b3)
    clear b3
    go_wp2_with fail
    refine (alive_any _).mono ?_
    rintro e w4 ⟨rfl, b4⟩
    replace V := Lib.hid (V.out.below b4)
    replace B := Lib.hid (below_more B.out b4)
    clear b4
    go_wp2
    go_ret
    exact ⟨by first | rfl | exact ret_bool (by simp; omega) | exact ret_bool (by simp), B.out⟩

end Go.Proofs.Ytkgafapghdjhlaa
