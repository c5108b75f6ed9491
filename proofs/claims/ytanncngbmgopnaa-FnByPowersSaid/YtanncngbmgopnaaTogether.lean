/- impl.together: two walkers go on until they stand on one thing. Conditions: a map, and where the blocks lie. -/
import Derived.Test.YtanncngbmgopnaaMeeting
namespace Go.Proofs.Ytanncngbmgopnaa
open Go.RowKit
set_option linter.unusedVariables false

/-- Behind both walkers' steps. -/
structure Tog (W w : World) (b1 b2 gm off n c x y g o : Nat) (C : Int → Array Value) (tC : TypeId) (q : Int) (s : Nat → Nat) : Prop where
  k1 : Wk w b1 gm off n c x g o
  k2 : Wk w b2 gm off n c y g o
  hc : Bk w g (C q) tC
  mp : Map w gm off n s
  gr : W.grownBy w (some g)

set_option maxHeartbeats 2000000 in
theorem together_any (W : World) (b1 b2 gm off n c x y g o t : Nat) (q : Int) (s : Nat → Nat) (tC : TypeId) (C : Int → Array Value) (w : World) (hs : Mp n s) (hx : x < n) (hy : y < n) (q0 : 0 ≤ q) (q1 : q ≤ 1000) (ct : Ctr C o)
    (h : Tog W w b1 b2 gm off n c x y g o C tC q s) (d1 : gm < g) (d2 : g < b1) (d2' : g < b2) (d3 : b1 + 2 < b2 ∨ b2 + 2 < b1) (hW : W.heap.size ≤ b1) (hW2 : W.heap.size ≤ b2) (ht : t ≤ 14) (he : it s t x = it s t y) (hne : ∀ j, j < t → it s j x ≠ it s j y) :
    Calls Try.prog 72 #[wkv b1, wkv b2] w fun e w' => e = .returned (.int .i64 (t : Int)) ∧ Tog W w' b1 b2 gm off n c (it s t x) (it s t y) g o C tC (q + 2 * t) s := by
  have HS := Lib.hid hs
  have HIx := Lib.hid (it_lt hs hx)
  have HIy := Lib.hid (it_lt hs hy)
  have HC := Lib.hid ct
  have HE := Lib.hid he
  have HN := Lib.hid hne
  have HH := Lib.hid h
  clear hs ct he hne h
  unfold wkv
  go_enter Try.func72, Try.ntmps72
  go_wp2
  go_loopw [5] (fun i wr => ∃ j : Nat, j ≤ t ∧ i = .int .i64 j ∧ Tog W wr b1 b2 gm off n c (it s j x) (it s j y) g o C tC (q + 2 * j) s) (fun i _ => t - (intOf i).toNat)
  case atStart => exact ⟨0, Nat.zero_le _, rfl, by rw [show q + 2 * ((0 : Nat) : Int) = q by omega]; exact HH.out⟩
  case round =>
    obtain ⟨j, hj, rfl, T⟩ := hrel
    have HT := Lib.hid T
    clear T
    have i1 := HIx.out j
    have i2 := HIy.out j
    go_wp2_with fail
    refine (walker_to 0 _ (it s j x) b1 g o gm off n c (q + 2 * j) (q + 2 * j) s tC C _ HS.out i1 (by omega) (by omega) (by omega) HT.out.mp HT.out.k1 HT.out.hc HC.out d1 d2 rfl (by omega)).mono ?_
    rintro e wa ⟨rfl, ka, hca, hoa⟩
    have kb := Lib.hid (HT.out.k2.only hoa (by omega) (by omega) (by omega) (by omega) (by omega) (by omega))
    have ma := Lib.hid (HT.out.mp.only hoa (by omega) (by omega))
    have ga := grown_only HT.out.gr hoa (by omega)
    clear hoa HT
    go_wp2_with fail
    refine (walker_to 0 _ (it s j y) b2 g o gm off n c (q + 2 * j) (q + 2 * j) s tC C _ HS.out i2 (by omega) (by omega) (by omega) ma.out kb.out hca HC.out d1 (by omega) rfl (by omega)).mono ?_
    rintro e wb ⟨rfl, kb', hcb, hob⟩
    have ka' := Lib.hid (ka.only hob (by omega) (by omega) (by omega) (by omega) (by omega) (by omega))
    have mb := Lib.hid (ma.out.only hob (by omega) (by omega))
    have gb := grown_only ga hob (by omega)
    clear hob ka kb ma ga hca
    by_cases hlt : j < t
    · have hb : ((it s j x : Int) != (it s j y : Int)) = true := by
        have := HN.out j hlt
        simp; omega
      go_wp2_with fail
      refine (walker_to 1 _ (it s (j + 1) x) b1 g o gm off n c (q + 2 * j) (q + 2 * j + 1) s tC C _ HS.out i1 (by omega) (by omega) (by omega) mb.out ka'.out hcb HC.out d1 d2 rfl (by omega)).mono ?_
      rintro e wc ⟨rfl, kc, hcc, hoc⟩
      have kb2 := Lib.hid (kb'.only hoc (by omega) (by omega) (by omega) (by omega) (by omega) (by omega))
      have mc := Lib.hid (mb.out.only hoc (by omega) (by omega))
      have gc := grown_only gb hoc (by omega)
      clear hoc kb' ka' mb gb hcb
      go_wp2_with fail
      refine (walker_to 1 _ (it s (j + 1) y) b2 g o gm off n c (q + 2 * j + 1) (q + 2 * (j + 1 : Nat)) s tC C _ HS.out i2 (by omega) (by omega) (by omega) mc.out kb2.out hcc HC.out d1 (by omega) rfl (by omega)).mono ?_
      rintro e wd ⟨rfl, kd, hcd, hod⟩
      have kc' := kc.only hod (by omega) (by omega) (by omega) (by omega) (by omega) (by omega)
      have md := mc.out.only hod (by omega) (by omega)
      have gd := grown_only gc hod (by omega)
      have T : Tog W wd b1 b2 gm off n c (it s (j + 1) x) (it s (j + 1) y) g o C tC (q + 2 * (j + 1 : Nat)) s := ⟨kc', kd, hcd, md, gd⟩
      have TT := Lib.hid T
      clear T kc' kd hcd md gd hod kc kb2 mc gc hcc
      go_wp2_with fail
      go_roundw
      case rel => exact ⟨j + 1, by omega, by go_num, TT.out⟩
      case measure => simp [intOf]; omega
    · obtain rfl : j = t := by omega
      have hb : ((it s j x : Int) != (it s j y : Int)) = false := by
        have := HE.out
        simp; omega
      have T : Tog W wb b1 b2 gm off n c (it s j x) (it s j y) g o C tC (q + 2 * j) s := ⟨ka'.out, kb', hcb, mb.out, gb⟩
      go_wp2_with fail
      go_ret
      exact ⟨rfl, T⟩

end Go.Proofs.Ytanncngbmgopnaa
