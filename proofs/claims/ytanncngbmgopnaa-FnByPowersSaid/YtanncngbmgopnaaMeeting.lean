/- impl.meeting and impl.MeetingOf: where two walkers meet. Conditions: a map and one of its things, or none. -/
import Derived.Test.YtanncngbmgopnaaWalker
import Derived.Test.YtanncngbmgopnaaMeet
import Derived.Test.YtanncngbmgopnaaThingOk
namespace Go.Proofs.Ytanncngbmgopnaa
open Go.RowKit
set_option linter.unusedVariables false

theorem Wk.only {w w' : World} {b gm off n c x g o p q : Nat} (h : Wk w b gm off n c x g o) (ho : Only w w' p q) (h1 : b ≠ p) (h2 : b + 1 ≠ p) (h3 : b + 2 ≠ p) (h4 : b ≠ q) (h5 : b + 1 ≠ q) (h6 : b + 2 ≠ q) : Wk w' b gm off n c x g o :=
  ⟨h.f.only ho h1 h4, h.x.only ho h2 h5, h.p.only ho h3 h6⟩
theorem Wk.below {w w' : World} {b gm off n c x g o : Nat} (h : Wk w b gm off n c x g o) (hb : Below w.heap.size w w') : Wk w' b gm off n c x g o := ⟨h.f.below hb, h.x.below hb, h.p.below hb⟩
theorem Wk.lt {w : World} {b gm off n c x g o : Nat} (h : Wk w b gm off n c x g o) : b + 2 < w.heap.size := h.p.lt

/-- The map's cells. -/
def Map (w : World) (gm off n : Nat) (s : Nat → Nat) : Prop := ∀ j, j < n → w.cell? ⟨gm, off + j, none⟩ = some (.int .i64 (s j : Int))
theorem Map.only {w w' : World} {gm off n p q : Nat} {s : Nat → Nat} (h : Map w gm off n s) (ho : Only w w' p q) (h1 : gm ≠ p) (h2 : gm ≠ q) : Map w' gm off n s := fun j hj => (ho.cell h1 h2).trans (h j hj)
theorem Map.below {w w' : World} {gm off n : Nat} {s : Nat → Nat} (h : Map w gm off n s) (hg : gm < w.heap.size) (hb : Below w.heap.size w w') : Map w' gm off n s := fun j hj => (hb.cell (p := ⟨gm, off + j, none⟩) hg).trans (h j hj)

theorem grown_only {W a b : World} {p g : Nat} (h : W.grownBy a (some g)) (ho : Only a b p g) (hp : W.heap.size ≤ p) : W.grownBy b (some g) :=
  ⟨ho.os.trans h.os, ho.tape.trans h.tape, ho.output.trans h.output, by rw [ho.size]; exact h.size, fun k hk hne => (ho.block k (by omega) (fun e => hne (by rw [e]))).trans (h.block k hk hne)⟩

/-- A walker's call, where it comes to being known. -/
theorem walker_to (k x y b g o gm off n c : Nat) (q r : Int) (s : Nat → Nat) (tC : TypeId) (C : Int → Array Value) (w : World) (hs : Mp n s) (hx : x < n) (hk : k ≤ 1000) (q0 : 0 ≤ q) (q1 : q ≤ 1000000)
    (hm : Map w gm off n s) (hw : Wk w b gm off n c x g o) (hC : Bk w g (C q) tC) (ct : Ctr C o) (d1 : gm < g) (d2 : g < b) (hy : it s k x = y) (hr : q + k = r) :
    Calls Try.prog 88 #[.int .i64 k, .pointer (some ⟨b, 0, none⟩), .pointer (some ⟨b + 1, 0, none⟩), .pointer (some ⟨b + 2, 0, none⟩)] w (Stepped w b gm off n c y g o C tC r) := by
  subst hy
  subst hr
  exact walker_step k x b g o gm off n c q s tC C w hs hx hk q0 q1 hm hw hC ct d1 d2

set_option maxHeartbeats 2000000 in
theorem meeting_any (x m g o gm off n c : Nat) (q : Int) (s : Nat → Nat) (tC : TypeId) (C : Int → Array Value) (w : World) (hs : Mp n s) (hx : x < n) (q0 : 0 ≤ q) (q1 : q ≤ 1000) (hm : Map w gm off n s) (hC : Bk w g (C q) tC) (ct : Ctr C o) (d1 : gm < g) (hg : g < w.heap.size)
    (hmt : Meet s x m) (hm14 : m ≤ 14) :
    Calls Try.prog 81 #[.slice (some ⟨gm, off, none⟩) n c, .int .i64 x, .pointer (some ⟨g, o, none⟩)] w fun e w' =>
      e = .returned (.tuple #[.int .i64 (m : Int), .int .i64 (it s m x : Int)]) ∧ Bk w' g (C (q + 3 * m)) tC ∧ w.grownBy w' (some g) := by
  have HS := Lib.hid hs
  have HI := Lib.hid (it_lt hs hx)
  have HM := Lib.hid hmt
  have hm1 := hmt.1
  have HC := Lib.hid ct
  clear hs hmt ct
  have HMp := Lib.hid hm
  clear hm
  go_enter Try.func81, Try.ntmps81
  go_wp2_with fail
  refine (walkerOn_any x g o gm off n c _).mono ?_
  rintro e w1 ⟨rfl, k1, b1, z1⟩
  unfold wkv
  go_wp2_with fail
  refine (walkerOn_any x g o gm off n c _).mono ?_
  rintro e w2 ⟨rfl, k2, b2, z2⟩
  unfold wkv
  have hC2 : Bk w2 g (C q) tC := (hC.below b1).below b2
  have k1' := k1.below b2
  have hmp2 := Lib.hid (((HMp.out).below (Nat.lt_trans d1 hg) b1).below (Nat.lt_of_lt_of_le (Nat.lt_trans d1 hg) b1.size) b2)
  have bel := below_more b1 b2
  clear b1 b2 k1 hC HMp
  obtain ⟨B1, hB1⟩ : ∃ B1, w.heap.size = B1 := ⟨_, rfl⟩
  obtain ⟨B2, hB2⟩ : ∃ B2, w1.heap.size = B2 := ⟨_, rfl⟩
  have hz : B2 = B1 + 3 := by omega
  have HZ := Lib.hid hz
  have HB := Lib.hid hB1
  rw [hB1] at k1' hg
  rw [hB2] at k2
  simp only [hB1, hB2]
  have h12 : B1 + 2 < B2 := by omega
  clear z1 z2 hz hB1 hB2
  go_wp2
  go_loopw [10] (fun i wr => ∃ j : Nat, j < m ∧ i = .int .i64 j ∧ Wk wr B1 gm off n c (it s j x) g o ∧ Wk wr B2 gm off n c (it s (2 * j) x) g o ∧ Bk wr g (C (q + 3 * j)) tC ∧ Map wr gm off n s ∧ w.grownBy wr (some g)) (fun i _ => m - (intOf i).toNat)
  case atStart => exact ⟨0, by omega, rfl, k1', k2, by rw [show q + 3 * ((0 : Nat) : Int) = q by omega]; exact hC2, hmp2.out, grownBy_below bel _⟩
  case round =>
    obtain ⟨j, hj, rfl, ks, kf, hc, hmp, hgr⟩ := hrel
    have HMP := Lib.hid hmp
    clear hmp
    have hj2 := HI.out (2 * j)
    have hj1 := HI.out j
    go_wp2_with fail
    refine (walker_to 1 _ (it s (j + 1) x) B1 g o gm off n c (q + 3 * j) (q + 3 * j + 1) s tC C _ HS.out hj1 (by omega) (by omega) (by omega) HMP.out ks hc HC.out d1 hg rfl (by omega)).mono ?_
    rintro e wa ⟨rfl, ks', hc', ho⟩
    have kf' := kf.only ho (by omega) (by omega) (by omega) (by omega) (by omega) (by omega)
    have HMPa := Lib.hid (HMP.out.only ho (by omega) (by omega))
    have hgra := grown_only hgr ho (by have := HB.out; omega)
    clear ks kf hc ho hgr
    have hi1 := HI.out (j + 1)
    go_wp2_with fail
    refine (walker_to 2 _ (it s (2 * (j + 1)) x) B2 g o gm off n c (q + 3 * j + 1) (q + 3 * (j + 1 : Nat)) s tC C _ HS.out hj2 (by omega) (by omega) (by omega) HMPa.out kf' hc' HC.out d1 (by omega) rfl (by omega)).mono ?_
    rintro e wb ⟨rfl, kf2, hc2, ho2⟩
    have ks2 := ks'.only ho2 (by omega) (by omega) (by omega) (by omega) (by omega) (by omega)
    have HMPb := Lib.hid (HMPa.out.only ho2 (by omega) (by omega))
    have hgrb := grown_only hgra ho2 (by have := HB.out; omega)
    clear ks' kf' hc' ho2 hgra HMPa
    by_cases hjm : j + 1 < m
    · have ht : ((it s (j + 1) x : Int) == (it s (2 * (j + 1)) x : Int)) = false := by
        have := HM.out.2.2 (j + 1) (by omega) hjm
        simp; omega
      go_wp2_with fail
      go_roundw
      case rel => exact ⟨j + 1, hjm, by go_num, ks2, kf2, hc2, HMPb.out, hgrb⟩
      case measure => simp [intOf]; omega
    · have hjm' : j + 1 = m := by omega
      have HJ := Lib.hid hjm'
      have ht : ((it s (j + 1) x : Int) == (it s (2 * (j + 1)) x : Int)) = true := by
        have := HM.out.2.1
        rw [hjm']
        simp; omega
      clear hjm'
      go_wp2_with fail
      refine (walker_to 0 _ (it s (j + 1) x) B1 g o gm off n c (q + 3 * (j + 1 : Nat)) (q + 3 * (j + 1 : Nat)) s tC C _ HS.out hi1 (by omega) (by omega) (by omega) HMPb.out ks2 hc2 HC.out d1 hg rfl (by omega)).mono ?_
      rintro e wc ⟨rfl, ks3, hc3, ho3⟩
      have hgrc := grown_only hgrb ho3 (by have := HB.out; omega)
      go_wp2_with fail
      go_ret2
      rw [HJ.out] at hc3
      refine ⟨?_, hc3, hgrc⟩
      rw [← HJ.out]
      rfl

end Go.Proofs.Ytanncngbmgopnaa
