/- impl.ByTwo: tail and loop found by two walkers. Conditions: a map and one of its things, or none. -/
import Derived.Test.YtanncngbmgopnaaTogether
import Derived.Test.YtanncngbmgopnaaFoundD
import Derived.Test.YtanncngbmgopnaaMeetSpec
import Derived.Deep.LoopGhost
namespace Go.Proofs.Ytanncngbmgopnaa
open Go.RowKit
set_option linter.unusedVariables false

theorem tog_facts {s : Nat → Nat} {x t l m : Nat} (hr : Rho s x t l) (hm : Meet s x m) : it s t x = it s t (it s m x) ∧ ∀ j, j < t → it s j x ≠ it s j (it s m x) := by
  obtain ⟨f1, f2, f3, _⟩ := hm.facts hr
  have hm1 := hm.1
  have hl := hr.pos
  constructor
  · rw [← it_add]
    have := (hr.eq_iff 0 m).2 (by rw [f1, Nat.zero_mod])
    simpa using this
  · intro j hj e
    rw [← it_add] at e
    by_cases h : j + m < t + l
    · have := hr.inj (by omega) h e
      omega
    · have e2 : it s (j + m) x = it s (t + (j + m - t) % l) x := by rw [← hr.mod]; congr 1; omega
      have a1 := Nat.mod_lt (j + m - t) hl
      rw [e2] at e
      have := hr.inj (by omega) (by omega) e
      omega
theorem gate_facts {s : Nat → Nat} {x t l : Nat} (hr : Rho s x t l) : it s (t + l) x = it s t x ∧ ∀ j, 1 ≤ j → j < l → it s (t + j) x ≠ it s t x := by
  refine ⟨hr.back, fun j h1 h2 e => ?_⟩
  have := hr.inj (by omega) (by have := hr.pos; omega) e
  omega

set_option maxHeartbeats 4000000 in
theorem byTwo_yes (A : Option Addr) (n c x t l m : Nat) (s : Nat → Nat) (w : World) (hA : View w A n (up s)) (hs : Mp n s) (hx : x < n) (hr : Rho s x t l) (hmt : Meet s x m) :
    Calls Try.prog 50 #[.slice A n c, .int .i64 x] w (RetFound w t l (3 * m + 2 * t + l) true) := by
  have h7 := hs.2.1
  have hle := hr.le hs hx
  have hlp := hr.pos
  have hml := (hmt.facts hr).2.2.1
  have HS := Lib.hid hs
  have HI := Lib.hid (it_lt hs hx)
  have HM := Lib.hid hmt
  have HT := Lib.hid (tog_facts hr hmt)
  have HG := Lib.hid (gate_facts hr)
  clear hs hmt hr
  obtain ⟨gm, off, rfl, hg, hc⟩ := hA (by omega)
  have HC : Hid (Map w gm off n s) := Lib.hid hc
  clear hc
  have vA := hA.below ((Below.refl w.heap.size w).alloc (Nat.le_refl _) (.cells #[.int .i64 0, .int .i64 0, .int .i64 0] 41))
  have hb1 := (Below.refl w.heap.size w).alloc (Nat.le_refl _) (.cells #[.int .i64 0, .int .i64 0, .int .i64 0] 41)
  have hb2 := hb1.alloc (by simp) (.cells #[.int .i64 0, .int .i64 0, .int .i64 0] 41)
  have r1 := Lib.hid ((Bk.new w #[.int .i64 0, .int .i64 0, .int .i64 0] 41).alloc (.cells #[.int .i64 0, .int .i64 0, .int .i64 0] 41))
  have f1 := Bk.new (w.alloc (.cells #[.int .i64 0, .int .i64 0, .int .i64 0] 41)) #[.int .i64 0, .int .i64 0, .int .i64 0] 41
  rw [World.size_alloc] at f1
  have F1 := Lib.hid f1
  clear f1
  have hmp2 := Lib.hid (HC.out.below hg hb2)
  clear HC
  go_enter Try.func50, Try.ntmps50
  go_wp2_with fail
  refine (thingOk_yes _ _ _ _ _ _ vA HS.out.valid hx).mono ?_
  rintro e w_ ⟨rfl, rfl⟩
  go_wp2_with fail
  refine (meeting_any x m (w.heap.size + 1) 2 gm off n c 0 s 41 (fun q => #[.int .i64 0, .int .i64 0, .int .i64 q]) _ HS.out hx (by omega) (by omega) hmp2.out F1.out (ctr_found 0 0) (by omega) (by simp) HM.out (by omega)).mono ?_
  rintro e w2 ⟨rfl, f2, gr2⟩
  have r2 := Lib.hid (r1.out.grown gr2 (by omega))
  have hmp3 := Lib.hid (hmp2.out.grown gr2 (by simp; omega) (by omega))
  have bel2 := below_grown hb2 gr2 (by omega)
  have hsz2 : w.heap.size + 2 ≤ w2.heap.size := by have := gr2.size; simp at this; omega
  have F2 := Lib.hid f2
  clear gr2 f2 r1 hmp2 hb1 hb2 vA F1
  go_wp2_with fail
  refine (walkerOn_any x (w.heap.size + 1) 2 gm off n c _).mono ?_
  rintro e w3 ⟨rfl, k3, b3, z3⟩
  unfold wkv
  have F3 := Lib.hid (F2.out.below b3)
  have hmp4 := Lib.hid (hmp3.out.below (by omega) b3)
  clear F2 hmp3
  go_wp2_with fail
  refine (walkerOn_any (it s m x) (w.heap.size + 1) 2 gm off n c _).mono ?_
  rintro e w4 ⟨rfl, k4, b4, z4⟩
  have k3' := Lib.hid (k3.below b4)
  have F4 := Lib.hid (F3.out.below b4)
  have hmp5 := Lib.hid (hmp4.out.below (by omega) b4)
  have gr4 : w2.grownBy w4 (some (w.heap.size + 1)) := grownBy_below (below_more b3 b4) _
  clear b3 b4 F3 hmp4 k3
  unfold wkv
  obtain ⟨B1, hB1⟩ : ∃ B1, w2.heap.size = B1 := ⟨_, rfl⟩
  obtain ⟨B2, hB2⟩ : ∃ B2, w3.heap.size = B2 := ⟨_, rfl⟩
  obtain ⟨R, hR⟩ : ∃ R, w.heap.size = R := ⟨_, rfl⟩
  rw [hB1] at k3' hsz2
  rw [hB2] at k4
  rw [hR] at k3' k4 F4 r2 hg hsz2 gr4
  simp only [hB1, hB2, hR]
  have h12 : B1 + 2 < B2 := by omega
  have HR := Lib.hid hR
  have HB1 := Lib.hid hB1
  clear z3 z4 hB1 hB2 hR
  have mx := HI.out m
  have T4 : Tog w2 w4 B1 B2 gm off n c x (it s m x) (R + 1) 2 (fun q => #[.int .i64 0, .int .i64 0, .int .i64 q]) 41 (0 + 3 * m) s := ⟨k3'.out, k4, F4.out, hmp5.out, gr4⟩
  have TT4 := Lib.hid T4
  clear T4 k3' k4 F4 hmp5 gr4
  go_wp2_with fail
  refine (together_any w2 B1 B2 gm off n c x (it s m x) (R + 1) 2 t (0 + 3 * m) s _ _ _ HS.out hx mx (by omega) (by omega) (ctr_found 0 0) TT4.out (by omega) (by omega) (by omega) (.inl h12) (by have := HB1.out; omega) (by have := HB1.out; omega) (by omega) HT.out.1 HT.out.2).mono ?_
  rintro e w5 ⟨rfl, T5⟩
  have TT5 := Lib.hid T5
  have cf := T5.hc.free 0
  have cc : w5.cell? ⟨R + 1, 0, none⟩ = some (.int .i64 0) := T5.hc.cell 0
  have fA : Hid (Bk (w5.setCell ⟨R + 1, 0, none⟩ (.int .i64 t)) (R + 1) #[.int .i64 t, .int .i64 0, .int .i64 (0 + 3 * m + 2 * t)] 41) := Lib.hid (T5.hc.set_ 0 (.int .i64 t))
  have kA := Lib.hid (T5.k1.set_ (a := ⟨R + 1, 0, none⟩) (show R + 1 < B1 by omega) (.int .i64 t))
  have kB := Lib.hid (T5.k2.set_ (a := ⟨R + 1, 0, none⟩) (show R + 1 < B2 by omega) (.int .i64 t))
  have mA := Lib.hid (T5.mp.set_ (a := ⟨R + 1, 0, none⟩) (show gm ≠ R + 1 by omega) (.int .i64 t))
  have gA := grown_set T5.gr 0 (.int .i64 (t : Int))
  clear T5 TT4 TT5
  have it1 := HI.out t
  have hgate : it s 0 (it s t (it s m x)) = it s t x := HT.out.1.symm
  have ity : it s t (it s m x) < n := by rw [← HT.out.1]; exact it1
  have HGT := Lib.hid hgate
  clear hgate
  go_wp2_with fail
  refine (walker_to 0 _ (it s t x) B2 (R + 1) 2 gm off n c (0 + 3 * m + 2 * t) (0 + 3 * m + 2 * t) s 41 (fun q => #[.int .i64 t, .int .i64 0, .int .i64 q]) _ HS.out ity (by omega) (by omega) (by omega) mA.out kB.out fA.out (ctr_found t 0) (by omega) (by omega) HGT.out (by omega)).mono ?_
  rintro e w6 ⟨rfl, k6, f6, ho6⟩
  have kA6 := kA.out.only ho6 (by omega) (by omega) (by omega) (by omega) (by omega) (by omega)
  have m6 := mA.out.only ho6 (by omega) (by omega)
  have g6 := grown_only gA ho6 (by have := HB1.out; omega)
  clear cf cc fA kA kB mA gA ho6 k6
  go_wp2_with fail
  go_loopg [] l (fun gk wr => ∃ j : Nat, j < l ∧ gk = l - j ∧ Wk wr B1 gm off n c (it s (t + j) x) (R + 1) 2 ∧ Bk wr (R + 1) #[.int .i64 t, .int .i64 j, .int .i64 (0 + 3 * m + 2 * t + j)] 41 ∧ Map wr gm off n s ∧ w2.grownBy wr (some (R + 1)))
  case atStart => exact ⟨0, by omega, by omega, kA6, by rw [show (0 + 3 * (m : Int) + 2 * t + ((0 : Nat) : Int)) = 0 + 3 * m + 2 * t by omega]; exact f6, m6, g6⟩
  case round =>
    obtain ⟨j, hj, hgk, kr, fr, mr, gr⟩ := hrel
    have HGK := Lib.hid hgk
    have itj := HI.out (t + j)
    have c1 : wr.cell? ⟨R + 1, 1, none⟩ = some (.int .i64 j) := fr.cell 1
    have c1f := fr.free 1
    have fA : Hid (Bk (wr.setCell ⟨R + 1, 1, none⟩ (.int .i64 (j + 1 : Int))) (R + 1) #[.int .i64 t, .int .i64 (j + 1 : Int), .int .i64 (0 + 3 * m + 2 * t + j)] 41) := Lib.hid (fr.set_ 1 (.int .i64 (j + 1 : Int)))
    have kA := Lib.hid (kr.set_ (a := ⟨R + 1, 1, none⟩) (show R + 1 < B1 by omega) (.int .i64 (j + 1 : Int)))
    have mA := Lib.hid (mr.set_ (a := ⟨R + 1, 1, none⟩) (show gm ≠ R + 1 by omega) (.int .i64 (j + 1 : Int)))
    have gA := grown_set gr 1 (.int .i64 (j + 1 : Int))
    clear hgk kr fr mr gr
    go_wp2_with fail
    refine (walker_to 1 _ (it s (t + (j + 1)) x) B1 (R + 1) 2 gm off n c (0 + 3 * m + 2 * t + j) (0 + 3 * m + 2 * t + (j + 1 : Nat)) s 41 (fun q => #[.int .i64 t, .int .i64 (j + 1 : Int), .int .i64 q]) _ HS.out itj (by omega) (by omega) (by omega) mA.out kA.out fA.out (ctr_found t (j + 1)) (by omega) (by omega) rfl (by omega)).mono ?_
    rintro e w7 ⟨rfl, k7, f7, ho7⟩
    have m7 := mA.out.only ho7 (by omega) (by omega)
    have g7 := grown_only gA ho7 (by have := HB1.out; omega)
    clear c1 c1f fA kA mA gA ho7
    by_cases hjl : j + 1 < l
    · have hb : ((it s (t + (j + 1)) x : Int) == (it s t x : Int)) = false := by
        have := HG.out.2 (j + 1) (by omega) hjl
        simp; omega
      go_wp2_with fail
      go_roundg (l - (j + 1))
      case rel => exact ⟨j + 1, hjl, rfl, k7, f7, m7, g7⟩
      case measure => have := HGK.out; omega
    · have hjl' : j + 1 = l := by omega
      have HJ := Lib.hid hjl'
      have hb : ((it s (t + (j + 1)) x : Int) == (it s t x : Int)) = true := by
        have := HG.out.1
        rw [hjl']
        simp; omega
      clear hjl'
      have c0 : w7.cell? ⟨R + 1, 0, none⟩ = some (.int .i64 t) := f7.cell 0
      have c1 : w7.cell? ⟨R + 1, 1, none⟩ = some (.int .i64 (j + 1 : Int)) := f7.cell 1
      have c2 : w7.cell? ⟨R + 1, 2, none⟩ = some (.int .i64 (0 + 3 * m + 2 * t + (j + 1 : Nat))) := f7.cell 2
      have rr := r2.out.grown g7 (by omega)
      have d0 : w7.cell? ⟨R, 0, none⟩ = some (.int .i64 0) := rr.cell 0
      have d1 : w7.cell? ⟨R, 1, none⟩ = some (.int .i64 0) := rr.cell 1
      have d2 : w7.cell? ⟨R, 2, none⟩ = some (.int .i64 0) := rr.cell 2
      have d0f := rr.free 0
      have d1f := rr.free 1
      have d2f := rr.free 2
      have bel7 := below_grown bel2 g7 (by have := HR.out; omega)
      go_wp2_with fail
      have rF : Bk (((w7.setCell ⟨R, 0, none⟩ (.int .i64 t)).setCell ⟨R, 1, none⟩ (.int .i64 (j + 1 : Int))).setCell ⟨R, 2, none⟩ (.int .i64 (3 * m + 2 * t + (j + 1 : Int)))) R #[.int .i64 t, .int .i64 (j + 1 : Int), .int .i64 (3 * m + 2 * t + (j + 1 : Int))] 41 := ((rr.set_ 0 _).set_ 1 _).set_ 2 _
      have e0 := rF.cell 0
      have e1 := rF.cell 1
      have e2 := rF.cell 2
      refine bodyPost_ret (v := .tuple #[.agg #[.int .i64 t, .int .i64 (j + 1 : Int), .int .i64 (3 * m + 2 * t + (j + 1 : Int))], .bool true]) (by simp [results, Try.results50, go_sem, e0, e1, e2]) rfl ⟨?_, ?_⟩
      · have h1 : (j : Int) + 1 = (l : Int) := by have := HJ.out; omega
        rw [h1]
      · have hRw : w.heap.size ≤ R := by have := HR.out; omega
        exact ((bel7.setCell (p := ⟨R, 0, none⟩) hRw _).setCell (p := ⟨R, 1, none⟩) hRw _).setCell (p := ⟨R, 2, none⟩) hRw _

set_option maxHeartbeats 1000000 in
theorem byTwo_no (A : Option Addr) (n c : Nat) (x : Int) (p : Nat → Int) (w : World) (hA : View w A n p) (hn : n ≤ 1099511627776) (h : ¬ (Valid n p ∧ 0 ≤ x ∧ x < n)) :
    Calls Try.prog 50 #[.slice A n c, .int .i64 x] w (RetFound w 0 0 0 false) := by
  have HH := Lib.hid h
  clear h
  have hb1 := (Below.refl w.heap.size w).alloc (Nat.le_refl _) (.cells #[.int .i64 0, .int .i64 0, .int .i64 0] 41)
  have r1 := Bk.new w #[.int .i64 0, .int .i64 0, .int .i64 0] 41
  have R1 := Lib.hid r1
  clear r1
  go_enter Try.func50, Try.ntmps50
  go_wp2_with fail
  refine (thingOk_no _ _ _ _ _ _ (hA.below hb1) hn HH.out).mono ?_
  rintro e w_ ⟨rfl, rfl⟩
  go_wp2
  have e0 := R1.out.cell 0
  have e1 := R1.out.cell 1
  have e2 := R1.out.cell 2
  exact bodyPost_ret (v := .tuple #[.agg #[.int .i64 0, .int .i64 0, .int .i64 0], .bool false]) (by simp [results, Try.results50, go_sem, e0, e1, e2]) rfl ⟨rfl, hb1⟩

end Go.Proofs.Ytanncngbmgopnaa
