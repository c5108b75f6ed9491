/- impl.ByPowers: tail and loop found with powers of two. Conditions: a map and one of its things, or none. -/
import Derived.Test.YtanncngbmgopnaaTogether
import Derived.Test.YtanncngbmgopnaaFoundD
import Derived.Test.YtanncngbmgopnaaPows
import Derived.Deep.LoopGhost
namespace Go.Proofs.Ytanncngbmgopnaa
open Go.RowKit
set_option linter.unusedVariables false

/-- The search's state: the walker at B stands on y and has asked q times. -/
structure St (W w : World) (B gm off n c y R : Nat) (q : Int) (s : Nat → Nat) : Prop where
  k : Wk w B gm off n c y (R + 1) 2
  f : Bk w (R + 1) #[.int .i64 0, .int .i64 0, .int .i64 q] 41
  r : Bk w R #[.int .i64 0, .int .i64 0, .int .i64 0] 41
  m : Map w gm off n s
  g : W.grownBy w (some (R + 1))

theorem St.step {W w w' : World} {B gm off n c y y' R : Nat} {q q' : Int} {s : Nat → Nat} (h : St W w B gm off n c y R q s) (hgm : gm < R) (hR : R + 1 < B) (hW : W.heap.size ≤ B)
    (k' : Wk w' B gm off n c y' (R + 1) 2) (f' : Bk w' (R + 1) #[.int .i64 0, .int .i64 0, .int .i64 q'] 41) (ho : Only w w' (B + 1) (R + 1)) : St W w' B gm off n c y' R q' s :=
  ⟨k', f', h.r.only ho (by omega) (by omega), h.m.only ho (by omega) (by omega), grown_only h.g ho (by omega)⟩

set_option maxHeartbeats 4000000 in
theorem byPowers_yes (A : Option Addr) (n c x t l P : Nat) (s : Nat → Nat) (w : World) (hA : View w A n (up s)) (hs : Mp n s) (hx : x < n) (hr : Rho s x t l) (hP : PowAt t l P) :
    Calls Try.prog 35 #[.slice A n c, .int .i64 x] w (RetFound w t l (P - 1 + 2 * l + 2 * t) true) := by
  have h7 := hs.2.1
  have hle := hr.le hs hx
  have hlp := hr.pos
  have HS := Lib.hid hs
  have HI := Lib.hid (it_lt hs hx)
  have HP := Lib.hid hP
  have HRho := Lib.hid hr
  have HT := Lib.hid (ahead_facts hr)
  have hP8 : 1 ≤ P ∧ P ≤ 8 := by have := hP.1; unfold Two at this; omega
  have hP1 := hP8.1
  have hP2 := hP8.2
  have hlP : l ≤ P := hP.2.1.2
  clear hs hP hr hP8
  obtain ⟨gm, off, rfl, hg, hc⟩ := hA (by omega)
  have HC : Hid (Map w gm off n s) := Lib.hid hc
  clear hc
  have hb1 := (Below.refl w.heap.size w).alloc (Nat.le_refl _) (.cells #[.int .i64 0, .int .i64 0, .int .i64 0] 41)
  have vA := hA.below hb1
  have hb2 := hb1.alloc (by simp) (.cells #[.int .i64 0, .int .i64 0, .int .i64 0] 41)
  have r1 := Lib.hid ((Bk.new w #[.int .i64 0, .int .i64 0, .int .i64 0] 41).alloc (.cells #[.int .i64 0, .int .i64 0, .int .i64 0] 41))
  have f1 := Bk.new (w.alloc (.cells #[.int .i64 0, .int .i64 0, .int .i64 0] 41)) #[.int .i64 0, .int .i64 0, .int .i64 0] 41
  rw [World.size_alloc] at f1
  have F1 := Lib.hid f1
  have mp1 := Lib.hid (HC.out.below hg hb2)
  clear f1 HC
  go_enter Try.func35, Try.ntmps35
  go_wp2_with fail
  go_step3
  go_wp2_with fail
  refine (thingOk_yes _ _ _ _ _ _ vA HS.out.valid hx).mono ?_
  rintro e w_ ⟨rfl, rfl⟩
  go_wp2_with fail
  refine (walkerOn_any x (w.heap.size + 1) 2 gm off n c _).mono ?_
  rintro e w3 ⟨rfl, k3, b3, z3⟩
  unfold wkv
  obtain ⟨W2, hW2⟩ : ∃ W2, ((w.alloc (.cells #[.int .i64 0, .int .i64 0, .int .i64 0] 41)).alloc (.cells #[.int .i64 0, .int .i64 0, .int .i64 0] 41)) = W2 := ⟨_, rfl⟩
  have hz2 : W2.heap.size = w.heap.size + 2 := by rw [← hW2]; simp
  simp only [hW2] at k3 b3 z3 hb2 r1 F1 mp1 ⊢
  have bel2 : Hid (Below w.heap.size w W2) := Lib.hid hb2
  have RW : Hid (Bk W2 w.heap.size #[.int .i64 0, .int .i64 0, .int .i64 0] 41) := r1
  have st3 : Hid (St W2 w3 W2.heap.size gm off n c x w.heap.size 0 s) := Lib.hid ⟨k3, F1.out.below b3, r1.out.below b3, mp1.out.below (by omega) b3, grownBy_below b3 _⟩
  clear hW2 k3 b3 z3 hb1 hb2 vA r1 F1 mp1
  obtain ⟨B, hB⟩ : ∃ B, W2.heap.size = B := ⟨_, rfl⟩
  obtain ⟨R, hR⟩ : ∃ R, w.heap.size = R := ⟨_, rfl⟩
  rw [hB, hR] at hz2 st3
  rw [hR] at RW
  rw [hR] at hg
  simp only [hB, hR]
  have HB := Lib.hid hB
  have HR := Lib.hid hR
  clear hB hR
  have HG := Lib.hid hg
  have hRB : R + 2 ≤ B := by omega
  have hBR : B ≤ R + 2 := by omega
  clear hA hz2
  go_wp2_with fail
  go_step3
  go_wp2_with fail
  go_loopg [7, 9] 7 (fun gk u v wr => ∃ p : Nat, Two p ∧ p ≤ P ∧ gk = 8 - p ∧ u = .int .i64 (it s (p - 1) x : Int) ∧ v = .int .i64 (p : Int) ∧ St W2 wr B gm off n c (it s (p - 1) x) R ((p - 1 : Nat) : Int) s)
  case atStart => exact ⟨1, .inl rfl, hP1, by omega, rfl, rfl, st3.out⟩
  case round =>
    obtain ⟨p, hp2, hpP, hgk, rfl, rfl, st⟩ := hrel
    have hp8 : 1 ≤ p ∧ p ≤ 8 := by unfold Two at hp2; omega
    have hp1 := hp8.1
    have hpp2 : ((p - 1 : Nat) : Int) = (p : Int) - 1 := by omega
    obtain ⟨wo, rfl⟩ : ∃ wo : World, wo = wr := ⟨_, rfl⟩
    have ST := Lib.hid st
    have HGK := Lib.hid hgk
    have H2 := Lib.hid hp2
    have HPP := Lib.hid hpp2
    have i0 := HI.out (p - 1)
    clear hgk hp2 hp8 st hpp2
    by_cases hpe : p = P
    · obtain rfl := hpe
      have HF := Lib.hid HP.out.2.1
      go_wp2_with fail
      go_loopg [10] l (fun gj v wz => ∃ j : Nat, j < l ∧ gj = l - j ∧ v = .int .i64 ((j + 1 : Nat) : Int) ∧ St W2 wz B gm off n c (it s (p - 1 + j) x) R ((p - 1 + j : Nat) : Int) s)
      case atStart => exact ⟨0, by omega, by omega, rfl, ST.out⟩
      case round =>
        obtain ⟨j, hj, hgj, rfl, st⟩ := hrel
        have HGJ := Lib.hid hgj
        have SJ := Lib.hid st
        have ij := HI.out (p - 1 + j)
        clear hgj st
        have hjp : ((j + 1 : Nat) : Int) ≤ (p : Int) := by omega
        go_wp2_with fail
        refine (walker_to 1 _ (it s (p - 1 + (j + 1)) x) B (R + 1) 2 gm off n c ((p - 1 + j : Nat) : Int) ((p - 1 + (j + 1) : Nat) : Int) s 41 (fun q => #[.int .i64 0, .int .i64 0, .int .i64 q]) _ HS.out ij (by omega) (by omega) (by omega) SJ.out.m SJ.out.k SJ.out.f (ctr_found 0 0) (by omega) (by omega) rfl (by omega)).mono ?_
        rintro e w7 ⟨rfl, k7, f7, ho7⟩
        have S7 := Lib.hid (SJ.out.step hg (by omega) (by have := HB.out; omega) k7 f7 ho7)
        clear SJ k7 f7 ho7
        by_cases hjl : j + 1 < l
        · have hb : ((it s (p - 1 + (j + 1)) x : Int) == (it s (p - 1) x : Int)) = false := by
            have := fit_no (p := p) (j := j + 1) HRho.out (by omega) hjl
            simp; omega
          go_wp2_with fail
          go_roundg (l - (j + 1))
          case rel => exact ⟨j + 1, hjl, rfl, by go_num, S7.out⟩
          case measure => have := HGJ.out; omega
        · have hjl' : j + 1 = l := by omega
          have HJ := Lib.hid hjl'
          have hb : ((it s (p - 1 + (j + 1)) x : Int) == (it s (p - 1) x : Int)) = true := by
            have := fit_yes (p := p) HRho.out HF.out
            rw [hjl']
            simp; omega
          clear hjl'
          have c1 : w7.cell? ⟨R + 1, 1, none⟩ = some (.int .i64 0) := S7.out.f.cell 1
          have c1f := S7.out.f.free 1
          go_wp2_with fail
          have f8 : Hid (Bk (w7.setCell ⟨R + 1, 1, none⟩ (.int .i64 (j + 1 : Int))) (R + 1) #[.int .i64 0, .int .i64 (l : Int), .int .i64 ((p - 1 + l : Nat) : Int)] 41) := Lib.hid (by
            have h := S7.out.f.set_ 1 (.int .i64 (j + 1 : Int))
            have e1 : (j : Int) + 1 = (l : Int) := by have := HJ.out; omega
            rw [HJ.out] at h
            rw [e1] at h ⊢
            exact h)
          have m8 := Lib.hid (S7.out.m.set_ (a := ⟨R + 1, 1, none⟩) (show gm ≠ R + 1 by omega) (.int .i64 (j + 1 : Int)))
          have g8 := Lib.hid (grown_set S7.out.g 1 (.int .i64 (j + 1 : Int)))
          have hz8 : B + 2 < (w7.setCell ⟨R + 1, 1, none⟩ (.int .i64 (j + 1 : Int))).heap.size := by rw [World.size_setCell]; exact S7.out.k.lt
          clear c1 c1f hb S7
          generalize (w7.setCell ⟨R + 1, 1, none⟩ (.int .i64 (j + 1 : Int))) = w8 at f8 m8 g8 hz8 ⊢
          refine (walkerOn_any x (R + 1) 2 gm off n c _).mono ?_
          rintro e w9 ⟨rfl, k9, b9, z9⟩
          unfold wkv
          have f9 := Lib.hid (f8.out.below b9)
          have m9 := Lib.hid (m8.out.below (by omega) b9)
          have g9 := Lib.hid (grownBy_trans g8.out (grownBy_below b9 _))
          obtain ⟨B2, hB2⟩ : ∃ B2, w8.heap.size = B2 := ⟨_, rfl⟩
          rw [hB2] at k9 hz8
          simp only [hB2]
          have K9 := Lib.hid k9
          clear f8 m8 g8 b9 z9 hB2 k9
          have c9 : w9.cell? ⟨R + 1, 1, none⟩ = some (.int .i64 (l : Int)) := f9.out.cell 1
          have il := HI.out l
          go_wp2_with fail
          refine (walker_to l x (it s l x) B2 (R + 1) 2 gm off n c ((p - 1 + l : Nat) : Int) ((p - 1 + l + l : Nat) : Int) s 41 (fun q => #[.int .i64 0, .int .i64 (l : Int), .int .i64 q]) _ HS.out hx (by omega) (by omega) (by omega) m9.out K9.out f9.out (ctr_found 0 l) (by omega) (by omega) rfl (by omega)).mono ?_
          rintro e w10 ⟨rfl, k10, f10, ho10⟩
          have m10 := m9.out.only ho10 (by omega) (by omega)
          have g10 := grown_only g9.out ho10 (by have := HB.out; omega)
          have hz10 := k10.lt
          have K10 := Lib.hid k10
          have F10 := Lib.hid f10
          have M10 := Lib.hid m10
          have G10 := Lib.hid g10
          clear f9 m9 g9 K9 c9 k10 f10 ho10 m10 g10
          go_wp2_with fail
          refine (walkerOn_any x (R + 1) 2 gm off n c _).mono ?_
          rintro e w11 ⟨rfl, k11, b11, z11⟩
          unfold wkv
          have k10 := Lib.hid (K10.out.below b11)
          have f11 := Lib.hid (F10.out.below b11)
          have m11 := Lib.hid (M10.out.below (by omega) b11)
          have g11 := Lib.hid (grownBy_trans G10.out (grownBy_below b11 _))
          obtain ⟨B3, hB3⟩ : ∃ B3, w10.heap.size = B3 := ⟨_, rfl⟩
          rw [hB3] at k11 hz10
          simp only [hB3]
          have T11 : Hid (Tog W2 w11 B3 B2 gm off n c x (it s l x) (R + 1) 2 (fun q => #[.int .i64 0, .int .i64 (l : Int), .int .i64 q]) 41 ((p - 1 + l + l : Nat) : Int) s) := Lib.hid ⟨k11, k10.out, f11.out, m11.out, g11.out⟩
          clear K10 F10 M10 G10 b11 z11 hB3 k11 k10 f11 m11 g11
          go_wp2_with fail
          refine (together_any W2 B3 B2 gm off n c x (it s l x) (R + 1) 2 t ((p - 1 + l + l : Nat) : Int) s _ _ _ HS.out hx il (by omega) (by omega) (ctr_found 0 l) T11.out (by omega) (by omega) (by omega) (.inr (by omega)) (by have := HB.out; omega) (by have := HB.out; omega) (by omega) HT.out.1 HT.out.2).mono ?_
          rintro e w12 ⟨rfl, T12⟩
          obtain ⟨a, ha⟩ : ∃ a : Nat, ((p - 1 + l + l : Nat) : Int) + 2 * t = a := ⟨p - 1 + l + l + 2 * t, by omega⟩
          have c0f := T12.hc.free 0
          have c0 : w12.cell? ⟨R + 1, 0, none⟩ = some (.int .i64 0) := T12.hc.cell 0
          have f13 := T12.hc.set_ 0 (.int .i64 (t : Int))
          have r12 := RW.out.grown T12.gr (by omega)
          have r13 := Lib.hid (r12.far (a := ⟨R + 1, 0, none⟩) (show R ≠ R + 1 by omega) (.int .i64 (t : Int)))
          have bel12 := below_grown bel2.out T12.gr (by have := HR.out; omega)
          have bel13 := Lib.hid (bel12.setCell (p := ⟨R + 1, 0, none⟩) (show w.heap.size ≤ R + 1 by have := HR.out; omega) (.int .i64 (t : Int)))
          have d0 : (w12.setCell ⟨R + 1, 0, none⟩ (.int .i64 (t : Int))).cell? ⟨R + 1, 0, none⟩ = some (.int .i64 (t : Int)) := f13.cell 0
          have d1 : (w12.setCell ⟨R + 1, 0, none⟩ (.int .i64 (t : Int))).cell? ⟨R + 1, 1, none⟩ = some (.int .i64 (l : Int)) := f13.cell 1
          have d2 : (w12.setCell ⟨R + 1, 0, none⟩ (.int .i64 (t : Int))).cell? ⟨R + 1, 2, none⟩ = some (.int .i64 (a : Int)) := by rw [← ha]; exact f13.cell 2
          have e0 : (w12.setCell ⟨R + 1, 0, none⟩ (.int .i64 (t : Int))).cell? ⟨R, 0, none⟩ = some (.int .i64 0) := r13.out.cell 0
          have e1 : (w12.setCell ⟨R + 1, 0, none⟩ (.int .i64 (t : Int))).cell? ⟨R, 1, none⟩ = some (.int .i64 0) := r13.out.cell 1
          have e2 : (w12.setCell ⟨R + 1, 0, none⟩ (.int .i64 (t : Int))).cell? ⟨R, 2, none⟩ = some (.int .i64 0) := r13.out.cell 2
          have e0f := r13.out.free 0
          have e1f := r13.out.free 1
          have e2f := r13.out.free 2
          have HAA := Lib.hid ha
          clear f13 r12 bel12 T12 T11 ha
          go_wp2_with fail
          have rF := ((r13.out.set_ 0 (.int .i64 (t : Int))).set_ 1 (.int .i64 (l : Int))).set_ 2 (.int .i64 (a : Int))
          have q0 := rF.cell 0
          have q1 := rF.cell 1
          have q2 := rF.cell 2
          rw [Exit.noGoto_ret]
          refine bodyPost_ret (v := .tuple #[.agg #[.int .i64 t, .int .i64 l, .int .i64 a], .bool true]) (by simp [results, Try.results35, go_sem, q0, q1, q2]) rfl ⟨?_, ?_⟩
          · have h1 : (a : Int) = p - 1 + 2 * l + 2 * t := by have := HAA.out; omega
            rw [h1]
          · have hRw : w.heap.size ≤ R := by have := HR.out; omega
            exact ((bel13.out.setCell (p := ⟨R, 0, none⟩) hRw _).setCell (p := ⟨R, 1, none⟩) hRw _).setCell (p := ⟨R, 2, none⟩) hRw _
    · have hlt : p < P := by omega
      have HNF := Lib.hid (HP.out.2.2 p H2.out hlt)
      go_wp2_with fail
      go_loopg [10] p (fun gj v wz => ∃ j : Nat, j ≤ p ∧ gj = p - j ∧ v = .int .i64 ((j + 1 : Nat) : Int) ∧ St W2 wz B gm off n c (it s (p - 1 + j) x) R ((p - 1 + j : Nat) : Int) s)
      case atStart => exact ⟨0, by omega, by omega, rfl, ST.out⟩
      case round =>
        obtain ⟨j, hj, hgj, rfl, st⟩ := hrel
        have HGJ := Lib.hid hgj
        have SJ := Lib.hid st
        have ij := HI.out (p - 1 + j)
        clear hgj st
        by_cases hjp0 : j < p
        · have hjp : ((j + 1 : Nat) : Int) ≤ (p : Int) := by omega
          go_wp2_with fail
          refine (walker_to 1 _ (it s (p - 1 + (j + 1)) x) B (R + 1) 2 gm off n c ((p - 1 + j : Nat) : Int) ((p - 1 + (j + 1) : Nat) : Int) s 41 (fun q => #[.int .i64 0, .int .i64 0, .int .i64 q]) _ HS.out ij (by omega) (by omega) (by omega) SJ.out.m SJ.out.k SJ.out.f (ctr_found 0 0) (by omega) (by omega) rfl (by omega)).mono ?_
          rintro e w7 ⟨rfl, k7, f7, ho7⟩
          have S7 := Lib.hid (SJ.out.step hg (by omega) (by have := HB.out; omega) k7 f7 ho7)
          clear SJ k7 f7 ho7
          have hb : ((it s (p - 1 + (j + 1)) x : Int) == (it s (p - 1) x : Int)) = false := by
            have := no_fit (p := p) (j := j + 1) HRho.out HNF.out (by omega) (by omega)
            simp; omega
          go_wp2_with fail
          go_roundg (p - (j + 1))
          case rel => exact ⟨j + 1, hjp0, rfl, by go_num, S7.out⟩
          case measure => have := HGJ.out; omega
        · obtain rfl : j = p := by omega
          have hjp : ¬ ((j + 1 : Nat) : Int) ≤ (j : Int) := by omega
          go_wp2_with fail
          refine (walker_to 0 _ (it s (j - 1 + j) x) B (R + 1) 2 gm off n c ((j - 1 + j : Nat) : Int) ((j - 1 + j : Nat) : Int) s 41 (fun q => #[.int .i64 0, .int .i64 0, .int .i64 q]) _ HS.out ij (by omega) (by omega) (by omega) SJ.out.m SJ.out.k SJ.out.f (ctr_found 0 0) (by omega) (by omega) rfl (by omega)).mono ?_
          rintro e w7 ⟨rfl, k7, f7, ho7⟩
          have S7 := Lib.hid (SJ.out.step hg (by omega) (by have := HB.out; omega) k7 f7 ho7)
          clear SJ k7 f7 ho7
          have q1 : j - 1 + j = 2 * j - 1 := by omega
          have Q1 := Lib.hid q1
          clear q1
          go_wp2_with fail
          go_roundg (8 - 2 * j)
          case rel => exact ⟨2 * j, by have := H2.out; have := HP.out.1; unfold Two at *; omega, by have := H2.out; have := HP.out.1; unfold Two at *; omega, rfl, by rw [Q1.out], by go_num, by rw [← Q1.out]; exact S7.out⟩
          case measure => have := HGK.out; omega

end Go.Proofs.Ytanncngbmgopnaa
