/- spec.ByTwo: tail and loop found by two walkers, as the reference has it. Conditions: a map and one of its things, or none. -/
import Derived.Test.YtbmbhaaogkhfmaaByTwo
namespace Go.Proofs.Ytbmbhaaogkhfmaa
open Go.RowKit
set_option linter.unusedVariables false

set_option maxHeartbeats 4000000 in
theorem sByTwo_yes (A : Option Addr) (n c x t l m : Nat) (s : Nat → Nat) (w : World) (hA : View w A n (up s)) (hs : Mp n s) (hx : x < n) (hr : Rho s x t l) (hmt : Meet s x m) :
    Calls Try.prog 29 #[.slice A n c, .int .i64 x] w (RetFound w t l (3 * m + 2 * t + l) true) := by
  have h7 := hs.2.1
  have hle := hr.le hs hx
  have hlp := hr.pos
  have hml := (hmt.facts hr).2.2.1
  have HS := Lib.hid hs
  have HI := Lib.hid (it_lt hs hx)
  have HM := Lib.hid hmt
  have HRho := Lib.hid hr
  have HT := Lib.hid (tog_facts hr hmt)
  have HG := Lib.hid (gate_facts hr)
  clear hs hmt hr
  have hb1 := (Below.refl w.heap.size w).alloc (Nat.le_refl _) (.cells #[.int .i64 0, .int .i64 0, .int .i64 0] 38)
  have vA := hA.below hb1
  have r1 := Lib.hid (Bk.new w #[.int .i64 0, .int .i64 0, .int .i64 0] 38)
  obtain ⟨gm, off, rfl, hg, hc⟩ := hA (by omega)
  have HC : Hid (Map w gm off n s) := Lib.hid hc
  clear hc
  go_enter Try.func29, Try.ntmps29
  go_wp2_with fail
  refine (sMeetingOf_yes _ _ _ _ _ _ _ _ _ vA HS.out hx HRho.out HM.out).mono ?_
  rintro e w2 ⟨rfl, b2⟩
  have bel2 := below_more hb1 b2
  have r2 := Lib.hid (r1.out.below b2)
  have mp2 := Lib.hid (HC.out.below hg bel2)
  have hsz : w.heap.size + 1 ≤ w2.heap.size := by have := b2.size; simp at this; omega
  clear hb1 vA r1 HC b2
  obtain ⟨G, hG⟩ : ∃ G, w2.heap.size = G := ⟨_, rfl⟩
  have f3 : Bk (w2.alloc (.cells #[.int .i64 0, .int .i64 0, .int .i64 (3 * m)] 38)) G #[.int .i64 0, .int .i64 0, .int .i64 (3 * m)] 38 := by rw [← hG]; exact Bk.new _ _ _
  have HGs := Lib.hid hG
  have F3 := Lib.hid f3
  have r3 := Lib.hid (r2.out.alloc (.cells #[.int .i64 0, .int .i64 0, .int .i64 (3 * m)] 38))
  have mp3 := Lib.hid (mp2.out.below (Nat.lt_of_lt_of_le hg bel2.size) ((Below.refl _ _).alloc (Nat.le_refl _) (.cells #[.int .i64 0, .int .i64 0, .int .i64 (3 * m)] 38)))
  have bel3 := bel2.alloc bel2.size (.cells #[.int .i64 0, .int .i64 0, .int .i64 (3 * m)] 38)
  clear f3 r2 mp2 bel2
  go_wp2_with fail
  rw [hG] at hsz
  clear hG
  have mx := HI.out m
  have HY := Lib.hid (it_lt HS.out mx)
  go_loopg [7, 10] t (fun gk u v wr => ∃ j : Nat, j ≤ t ∧ gk = t - j ∧ u = .int .i64 (it s j (it s m x) : Int) ∧ v = .int .i64 (it s j x : Int) ∧ Bk wr G #[.int .i64 j, .int .i64 0, .int .i64 (3 * m + 2 * j)] 38 ∧
    Bk wr w.heap.size #[.int .i64 0, .int .i64 0, .int .i64 0] 38 ∧ Map wr gm off n s ∧ Below w.heap.size w wr)
  case atStart => exact ⟨0, by omega, by omega, rfl, rfl, by rw [show (3 * (m : Int) + 2 * ((0 : Nat) : Int)) = 3 * m by omega]; exact F3.out, r3.out, mp3.out, bel3⟩
  case round =>
    obtain ⟨j, hj, hgk, rfl, rfl, fr, rr, mr, hb⟩ := hrel
    have HGK := Lib.hid hgk
    have RR := Lib.hid rr
    have FR := Lib.hid fr
    have MR := Lib.hid mr
    have i1 := HI.out j
    have i2 := HY.out j
    have d1 : wr.cell? ⟨gm, off + it s j x, none⟩ = some (.int .i64 (it s (j + 1) x : Int)) := mr _ i1
    have d2 : wr.cell? ⟨gm, off + it s j (it s m x), none⟩ = some (.int .i64 (it s (j + 1) (it s m x) : Int)) := mr _ i2
    clear hgk rr mr
    by_cases hlt : j < t
    · have ht : ((it s j x : Int) != (it s j (it s m x) : Int)) = true := by
        have := HT.out.2 j hlt
        simp; omega
      have c0 : wr.cell? ⟨G, 0, none⟩ = some (.int .i64 j) := fr.cell 0
      have c0f := fr.free 0
      have f1 := fr.set_ 0 (.int .i64 (j + 1 : Int))
      have c2 : (wr.setCell ⟨G, 0, none⟩ (.int .i64 (j + 1 : Int))).cell? ⟨G, 2, none⟩ = some (.int .i64 (3 * m + 2 * j)) := f1.cell 2
      have c2' : wr.cell? ⟨G, 2, none⟩ = some (.int .i64 (3 * m + 2 * j)) := fr.cell 2
      have c2f := f1.free 2
      have f2 : Hid (Bk ((wr.setCell ⟨G, 0, none⟩ (.int .i64 (j + 1 : Int))).setCell ⟨G, 2, none⟩ (.int .i64 (3 * m + 2 * j + 2))) G #[.int .i64 (j + 1 : Int), .int .i64 0, .int .i64 (3 * m + 2 * j + 2)] 38) := Lib.hid (f1.set_ 2 _)
      have hGlt : w.heap.size < G := by omega
      have r2 := Lib.hid ((RR.out.far (a := ⟨G, 0, none⟩) (show w.heap.size ≠ G by omega) (.int .i64 (j + 1 : Int))).far (a := ⟨G, 2, none⟩) (show w.heap.size ≠ G by omega) (.int .i64 (3 * m + 2 * j + 2)))
      have m2 := Lib.hid ((MR.out.set_ (a := ⟨G, 0, none⟩) (show gm ≠ G by omega) (.int .i64 (j + 1 : Int))).set_ (a := ⟨G, 2, none⟩) (show gm ≠ G by omega) (.int .i64 (3 * m + 2 * j + 2)))
      have hb2 := (hb.setCell (p := ⟨G, 0, none⟩) (show w.heap.size ≤ G by omega) (.int .i64 (j + 1 : Int))).setCell (p := ⟨G, 2, none⟩) (show w.heap.size ≤ G by omega) (.int .i64 (3 * m + 2 * j + 2))
      clear f1 fr hb
      go_wp2_with fail
      go_roundg (t - (j + 1))
      case rel => exact ⟨j + 1, hlt, rfl, rfl, rfl, by rw [show (3 * (m : Int) + 2 * ((j + 1 : Nat) : Int)) = 3 * m + 2 * j + 2 by omega, show ((j + 1 : Nat) : Int) = (j : Int) + 1 by omega]; exact f2.out, r2.out, m2.out, hb2⟩
      case measure => have := HGK.out; omega
    · obtain rfl : j = t := by omega
      have ht : ((it s j x : Int) != (it s j (it s m x) : Int)) = false := by
        have := HT.out.1
        simp; omega
      obtain ⟨y, hy⟩ : ∃ y, y = it s j (it s m x) := ⟨_, rfl⟩
      have ey : Hid (y = it s j x) := Lib.hid (by rw [hy]; exact HT.out.1.symm)
      rw [← hy] at d2 i2 ht ⊢
      have d3 : wr.cell? ⟨gm, off + y, none⟩ = some (.int .i64 (it s 1 y : Int)) := MR.out _ i2
      have HYY := Lib.hid (it_lt HS.out i2)
      have gt1 : Hid (it s l y = y) := Lib.hid (by rw [ey.out, ← it_add, Nat.add_comm]; exact HG.out.1)
      have gt2 : Hid (∀ k, 1 ≤ k → k < l → it s k y ≠ y) := Lib.hid (fun k h1 h2 => by rw [ey.out, ← it_add, Nat.add_comm]; exact HG.out.2 k h1 h2)
      clear hy d2 d1 i1
      go_wp2_with fail
      go_loopg [11] l (fun gk v wz => ∃ k : Nat, k < l ∧ gk = l - k ∧ v = .int .i64 (it s (k + 1) y : Int) ∧ Bk wz G #[.int .i64 j, .int .i64 k, .int .i64 (3 * m + 2 * j + k)] 38 ∧
        Bk wz w.heap.size #[.int .i64 0, .int .i64 0, .int .i64 0] 38 ∧ Map wz gm off n s ∧ Below w.heap.size w wz)
      case atStart => exact ⟨0, by omega, by omega, rfl, by rw [show (3 * (m : Int) + 2 * j + ((0 : Nat) : Int)) = 3 * m + 2 * j by omega]; exact FR.out, RR.out, MR.out, hb⟩
      case round =>
        clear FR RR MR fr hb HGK
        obtain ⟨k, hk, hgk, rfl, fr, rr, mr, hb⟩ := hrel
        have HGK := Lib.hid hgk
        have i3 := HYY.out (k + 1)
        have d4 : wr.cell? ⟨gm, off + it s (k + 1) y, none⟩ = some (.int .i64 (it s (k + 1 + 1) y : Int)) := mr _ i3
        have c1 : wr.cell? ⟨G, 1, none⟩ = some (.int .i64 k) := fr.cell 1
        have c1f := fr.free 1
        have f1 := fr.set_ 1 (.int .i64 (k + 1 : Int))
        have c2 : (wr.setCell ⟨G, 1, none⟩ (.int .i64 (k + 1 : Int))).cell? ⟨G, 2, none⟩ = some (.int .i64 (3 * m + 2 * j + k)) := f1.cell 2
        have c2' : wr.cell? ⟨G, 2, none⟩ = some (.int .i64 (3 * m + 2 * j + k)) := fr.cell 2
        have c2f := f1.free 2
        have f2 : Bk ((wr.setCell ⟨G, 1, none⟩ (.int .i64 (k + 1 : Int))).setCell ⟨G, 2, none⟩ (.int .i64 (3 * m + 2 * j + k + 1))) G #[.int .i64 j, .int .i64 (k + 1 : Int), .int .i64 (3 * m + 2 * j + k + 1)] 38 := f1.set_ 2 _
        have r2 := (rr.far (a := ⟨G, 1, none⟩) (show w.heap.size ≠ G by omega) (.int .i64 (k + 1 : Int))).far (a := ⟨G, 2, none⟩) (show w.heap.size ≠ G by omega) (.int .i64 (3 * m + 2 * j + k + 1))
        have m2 := Lib.hid ((mr.set_ (a := ⟨G, 1, none⟩) (show gm ≠ G by omega) (.int .i64 (k + 1 : Int))).set_ (a := ⟨G, 2, none⟩) (show gm ≠ G by omega) (.int .i64 (3 * m + 2 * j + k + 1)))
        have hb2 := (hb.setCell (p := ⟨G, 1, none⟩) (show w.heap.size ≤ G by omega) (.int .i64 (k + 1 : Int))).setCell (p := ⟨G, 2, none⟩) (show w.heap.size ≤ G by omega) (.int .i64 (3 * m + 2 * j + k + 1))
        have R2 := Lib.hid r2
        have F2 := Lib.hid f2
        have d4' : ((wr.setCell ⟨G, 1, none⟩ (.int .i64 (k + 1 : Int))).setCell ⟨G, 2, none⟩ (.int .i64 (3 * m + 2 * j + k + 1))).cell? ⟨gm, off + it s (k + 1) y, none⟩ = some (.int .i64 (it s (k + 1 + 1) y : Int)) := m2.out _ i3
        clear f1 fr hb mr rr hgk
        by_cases hkl : k + 1 < l
        · have ht : ((it s (k + 1) y : Int) == (y : Int)) = false := by
            have := gt2.out (k + 1) (by omega) hkl
            simp; omega
          clear r2 f2
          go_wp2_with fail
          go_roundg (l - (k + 1))
          case rel => exact ⟨k + 1, hkl, rfl, rfl, by rw [show (3 * (m : Int) + 2 * j + ((k + 1 : Nat) : Int)) = 3 * m + 2 * j + k + 1 by omega, show ((k + 1 : Nat) : Int) = (k : Int) + 1 by omega]; exact F2.out, R2.out, m2.out, hb2⟩
          case measure => have := HGK.out; omega
        · have hkl' : k + 1 = l := by omega
          have HK := Lib.hid hkl'
          have ht : ((it s (k + 1) y : Int) == (y : Int)) = true := by
            have := gt1.out
            rw [hkl']
            simp; omega
          clear hkl'
          have e0 := f2.cell 0
          have e1 := f2.cell 1
          have e2 := f2.cell 2
          have g0 := r2.cell 0
          have g1 := r2.cell 1
          have g2 := r2.cell 2
          have g0f := r2.free 0
          have g1f := r2.free 1
          have g2f := r2.free 2
          have rF := ((r2.set_ 0 (.int .i64 (j : Int))).set_ 1 (.int .i64 (k + 1 : Int))).set_ 2 (.int .i64 (3 * m + 2 * j + k + 1))
          have RF := Lib.hid rF
          have RR2 := R2.out
          clear r2 f2 rF RR2
          go_wp2_with fail
          have q0 := RF.out.cell 0
          have q1 := RF.out.cell 1
          have q2 := RF.out.cell 2
          refine bodyPost_ret (v := .tuple #[.agg #[.int .i64 j, .int .i64 (k + 1 : Int), .int .i64 (3 * m + 2 * j + k + 1)], .bool true]) (by simp [results, Try.results29, go_sem, q0, q1, q2]) rfl ⟨?_, ?_⟩
          · have h1 : (k : Int) + 1 = (l : Int) := by have := HK.out; omega
            have h2 : 3 * (m : Int) + 2 * j + k + 1 = 3 * m + 2 * j + l := by have := HK.out; omega
            rw [h1, h2]
          · exact ((hb2.setCell (p := ⟨w.heap.size, 0, none⟩) (Nat.le_refl _) _).setCell (p := ⟨w.heap.size, 1, none⟩) (Nat.le_refl _) _).setCell (p := ⟨w.heap.size, 2, none⟩) (Nat.le_refl _) _

set_option maxHeartbeats 1000000 in
theorem sByTwo_no (A : Option Addr) (n c : Nat) (x : Int) (p : Nat → Int) (w : World) (hA : View w A n p) (hn : n ≤ 1099511627776) (h : ¬ (Valid n p ∧ 0 ≤ x ∧ x < n)) :
    Calls Try.prog 29 #[.slice A n c, .int .i64 x] w (RetFound w 0 0 0 false) := by
  have HH := Lib.hid h
  clear h
  have hb1 := (Below.refl w.heap.size w).alloc (Nat.le_refl _) (.cells #[.int .i64 0, .int .i64 0, .int .i64 0] 38)
  have R1 := Lib.hid (Bk.new w #[.int .i64 0, .int .i64 0, .int .i64 0] 38)
  go_enter Try.func29, Try.ntmps29
  go_wp2_with fail
  refine (sMeetingOf_no _ _ _ _ _ _ (hA.below hb1) hn HH.out).mono ?_
  rintro e w2 ⟨rfl, b2⟩
  have bel2 := below_more hb1 b2
  have r2 := R1.out.below b2
  have g0 := r2.cell 0
  have g1 := r2.cell 1
  have g2 := r2.cell 2
  have g0f := r2.free 0
  have g1f := r2.free 1
  have g2f := r2.free 2
  have rF := ((r2.set_ 0 (.int .i64 0)).set_ 1 (.int .i64 0)).set_ 2 (.int .i64 0)
  have RF := Lib.hid rF
  clear r2 rF
  go_wp2_with fail
  have q0 := RF.out.cell 0
  have q1 := RF.out.cell 1
  have q2 := RF.out.cell 2
  refine bodyPost_ret (v := .tuple #[.agg #[.int .i64 0, .int .i64 0, .int .i64 0], .bool false]) (by simp [results, Try.results29, go_sem, q0, q1, q2]) rfl ⟨rfl, ?_⟩
  exact ((bel2.setCell (p := ⟨w.heap.size, 0, none⟩) (Nat.le_refl _) _).setCell (p := ⟨w.heap.size, 1, none⟩) (Nat.le_refl _) _).setCell (p := ⟨w.heap.size, 2, none⟩) (Nat.le_refl _) _

end Go.Proofs.Ytbmbhaaogkhfmaa
