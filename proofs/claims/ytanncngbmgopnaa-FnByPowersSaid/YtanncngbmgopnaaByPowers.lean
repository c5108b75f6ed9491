/- spec.ByPowers, and impl.ByPowers where there is no map: tail and loop found with powers of two. Conditions: a map and one of its things, or none. -/
import Derived.Test.YtanncngbmgopnaaByPowImpl
import Derived.Test.YtanncngbmgopnaaOkSpec
import Derived.Test.YtanncngbmgopnaaL1In
namespace Go.Proofs.Ytanncngbmgopnaa
open Go.RowKit
set_option linter.unusedVariables false

theorem pow_ex {n : Nat} {s : Nat → Nat} {x t l : Nat} (hle : t + l ≤ n) (h7 : n ≤ 7) (hr : Rho s x t l) : ∃ P, PowAt t l P := pow_at (by omega) hr.pos

/-- The reference's state: what is found so far, at G. -/
structure Sp (W w : World) (G gm off n : Nat) (a b q : Int) (s : Nat → Nat) : Prop where
  f : Bk w G #[.int .i64 a, .int .i64 b, .int .i64 q] 41
  r : Bk w W.heap.size #[.int .i64 0, .int .i64 0, .int .i64 0] 41
  m : Map w gm off n s
  b : Below W.heap.size W w

section
variable {W w : World} {G gm off n : Nat} {a b q : Int} {s : Nat → Nat}
theorem Sp.set0 (h : Sp W w G gm off n a b q s) (hg : gm < G) (hG : W.heap.size < G) (u : Int) : Sp W (w.setCell ⟨G, 0, none⟩ (.int .i64 u)) G gm off n u b q s :=
  ⟨h.f.set_ 0 _, h.r.far (show W.heap.size ≠ G by omega) _, h.m.set_ (show gm ≠ G by omega) _, h.b.setCell (show W.heap.size ≤ G by omega) _⟩
theorem Sp.set1 (h : Sp W w G gm off n a b q s) (hg : gm < G) (hG : W.heap.size < G) (u : Int) : Sp W (w.setCell ⟨G, 1, none⟩ (.int .i64 u)) G gm off n a u q s :=
  ⟨h.f.set_ 1 _, h.r.far (show W.heap.size ≠ G by omega) _, h.m.set_ (show gm ≠ G by omega) _, h.b.setCell (show W.heap.size ≤ G by omega) _⟩
theorem Sp.set2 (h : Sp W w G gm off n a b q s) (hg : gm < G) (hG : W.heap.size < G) (u : Int) : Sp W (w.setCell ⟨G, 2, none⟩ (.int .i64 u)) G gm off n a b u s :=
  ⟨h.f.set_ 2 _, h.r.far (show W.heap.size ≠ G by omega) _, h.m.set_ (show gm ≠ G by omega) _, h.b.setCell (show W.heap.size ≤ G by omega) _⟩
end

set_option maxHeartbeats 4000000 in
theorem sByPowers_yes (A : Option Addr) (n c x t l P : Nat) (s : Nat → Nat) (w : World) (hA : View w A n (up s)) (hs : Mp n s) (hx : x < n) (hr : Rho s x t l) (hP : PowAt t l P) :
    Calls Try.prog 34 #[.slice A n c, .int .i64 x] w (RetFound w t l (P - 1 + 2 * l + 2 * t) true) := by
  have h7 := hs.2.1
  have hle := hr.le hs hx
  have hlp := hr.pos
  have HS := Lib.hid hs
  have HI := Lib.hid (it_lt hs hx)
  have HP := Lib.hid hP
  have HRho := Lib.hid hr
  have HT := Lib.hid (ahead_facts hr)
  have hP8 : 1 ≤ P ∧ P ≤ 8 := by have := hP.1; unfold Two at this; omega
  have hP1 := hP8.1
  have hP2 := hP8.2
  have hlP : l ≤ P := hP.2.1.2
  clear hs hP hr hP8
  have hb1 := (Below.refl w.heap.size w).alloc (Nat.le_refl _) (.cells #[.int .i64 0, .int .i64 0, .int .i64 0] 41)
  have vA := hA.below hb1
  have r1 := Lib.hid (Bk.new w #[.int .i64 0, .int .i64 0, .int .i64 0] 41)
  obtain ⟨gm, off, rfl, hg, hc⟩ := hA (by omega)
  have HC : Hid (Map w gm off n s) := Lib.hid hc
  have c1 : w.cell? ⟨gm, off + x, none⟩ = some (.int .i64 (it s 1 x : Int)) := hc x hx
  clear hc
  go_enter Try.func34, Try.ntmps34
  go_wp2_with fail
  refine (sMapOk_yes _ _ _ _ _ vA HS.out.valid).mono ?_
  rintro e w_ ⟨rfl, rfl⟩
  go_wp2_with fail
  refine (l1In_yes _ _ _ _ (by omega) (by omega)).mono ?_
  rintro e w_ ⟨rfl, rfl⟩
  go_wp2_with fail
  have f2 := Bk.new (w.alloc (.cells #[.int .i64 0, .int .i64 0, .int .i64 0] 41)) #[.int .i64 0, .int .i64 0, .int .i64 1] 41
  rw [World.size_alloc] at f2
  have hb2 := hb1.alloc (by simp) (.cells #[.int .i64 0, .int .i64 0, .int .i64 1] 41)
  have S2 : Hid (Sp w ((w.alloc (.cells #[.int .i64 0, .int .i64 0, .int .i64 0] 41)).alloc (.cells #[.int .i64 0, .int .i64 0, .int .i64 1] 41)) (w.heap.size + 1) gm off n 0 0 1 s) :=
    Lib.hid ⟨f2, r1.out.alloc _, HC.out.below hg hb2, hb2⟩
  clear f2 hb2 hb1 vA r1 HC c1 hA
  generalize ((w.alloc (.cells #[.int .i64 0, .int .i64 0, .int .i64 0] 41)).alloc (.cells #[.int .i64 0, .int .i64 0, .int .i64 1] 41)) = w2 at S2 ⊢
  obtain ⟨G, hG⟩ : ∃ G, w.heap.size + 1 = G := ⟨_, rfl⟩
  rw [hG] at S2
  simp only [hG]
  have hwG : w.heap.size < G := by omega
  have hgG : gm < G := by omega
  clear hG
  go_loopg [7, 8, 9, 10] (P + l - 2) (fun gk u v pw lg wr => ∃ p j : Nat, Two p ∧ p ≤ P ∧ 1 ≤ j ∧ j ≤ p ∧ (p = P → j ≤ l) ∧ gk = P + l - 1 - (p - 1 + j) ∧ u = .int .i64 (it s (p - 1) x : Int) ∧ v = .int .i64 (it s (p - 1 + j) x : Int) ∧ pw = .int .i64 (p : Int) ∧ lg = .int .i64 (j : Int) ∧ Sp w wr G gm off n 0 0 ((p - 1 + j : Nat) : Int) s)
  case atStart => exact ⟨1, 1, .inl rfl, hP1, by omega, by omega, fun _ => hlp, by omega, rfl, rfl, rfl, rfl, S2.out⟩
  case round =>
    obtain ⟨p, j, hp2, hpP, hj1, hjp, hjl, hgk, rfl, rfl, rfl, rfl, sp⟩ := hrel
    have hp8 : 1 ≤ p ∧ p ≤ 8 := by unfold Two at hp2; omega
    have hp1 := hp8.1
    have hp8' := hp8.2
    have SP := Lib.hid sp
    have HGK := Lib.hid hgk
    have H2 := Lib.hid hp2
    have HJL := Lib.hid hjl
    have i1 := HI.out (p - 1 + j)
    have i0 := HI.out (p - 1)
    have d1 : wr.cell? ⟨gm, off + it s (p - 1 + j) x, none⟩ = some (.int .i64 (it s (p - 1 + j + 1) x : Int)) := sp.m _ i1
    have c2 : wr.cell? ⟨G, 2, none⟩ = some (.int .i64 ((p - 1 + j : Nat) : Int)) := sp.f.cell 2
    have c2f := sp.f.free 2
    clear hgk hp2 hp8 sp hjl
    by_cases hend : p = P ∧ j = l
    · obtain ⟨rfl, rfl⟩ := hend
      have ht : ((it s (p - 1 + j) x : Int) != (it s (p - 1) x : Int)) = false := by
        have := fit_yes (p := p) HRho.out HP.out.2.1
        simp; omega
      have c1 : wr.cell? ⟨G, 1, none⟩ = some (.int .i64 0) := SP.out.f.cell 1
      have c1f := SP.out.f.free 1
      have S3 := Lib.hid (SP.out.set1 hgG hwG (j : Int))
      clear SP d1 c2 c2f
      go_wp2_with fail
      generalize (wr.setCell ⟨G, 1, none⟩ (.int .i64 (j : Int))) = w3 at S3 ⊢
      go_loopg [11, 12] j (fun gk u v wz => ∃ k : Nat, k ≤ j ∧ gk = j - k ∧ u = .int .i64 (it s k x : Int) ∧ v = .int .i64 (k : Int) ∧ Sp w wz G gm off n 0 j ((p - 1 + j + k : Nat) : Int) s)
      case atStart => exact ⟨0, by omega, by omega, rfl, rfl, S3.out⟩
      case round =>
        obtain ⟨k, hk, hgk, rfl, rfl, sp⟩ := hrel
        have SP := Lib.hid sp
        have HGK2 := Lib.hid hgk
        have ik := HI.out k
        have d1 : wr.cell? ⟨gm, off + it s k x, none⟩ = some (.int .i64 (it s (k + 1) x : Int)) := sp.m _ ik
        have c2 : wr.cell? ⟨G, 2, none⟩ = some (.int .i64 ((p - 1 + j + k : Nat) : Int)) := sp.f.cell 2
        have c2f := sp.f.free 2
        clear hgk sp
        by_cases hlt : k < j
        · have S7 := Lib.hid (SP.out.set2 hgG hwG (((p - 1 + j + k : Nat) : Int) + 1))
          go_wp2_with fail
          go_roundg (j - (k + 1))
          case rel => exact ⟨k + 1, hlt, rfl, rfl, by go_num, S7.out⟩
          case measure => have := HGK2.out; omega
        · obtain rfl : k = j := by omega
          clear d1 c2 c2f
          go_wp2_with fail
          go_loopg [11, 13] t (fun gk u v wz => ∃ i : Nat, i ≤ t ∧ gk = t - i ∧ u = .int .i64 (it s i (it s k x) : Int) ∧ v = .int .i64 (it s i x : Int) ∧ Sp w wz G gm off n i k (((p - 1 + k + k + 2 * i : Nat)) : Int) s)
          case atStart => exact ⟨0, by omega, by omega, rfl, rfl, SP.out⟩
          case round =>
            obtain ⟨i, hi, hgk, rfl, rfl, sp⟩ := hrel
            clear SP
            have SP := Lib.hid sp
            have HGK3 := Lib.hid hgk
            have i2 := HI.out i
            have i3 := it_lt HS.out ik i
            have d1 : wr.cell? ⟨gm, off + it s i x, none⟩ = some (.int .i64 (it s (i + 1) x : Int)) := sp.m _ i2
            have d2 : wr.cell? ⟨gm, off + it s i (it s k x), none⟩ = some (.int .i64 (it s (i + 1) (it s k x) : Int)) := sp.m _ i3
            obtain ⟨Q, hQ⟩ : ∃ Q, p - 1 + k + k + 2 * i = Q := ⟨_, rfl⟩
            rw [hQ] at SP
            have HQ := Lib.hid hQ
            have c0 : wr.cell? ⟨G, 0, none⟩ = some (.int .i64 (i : Int)) := SP.out.f.cell 0
            have c2 : wr.cell? ⟨G, 2, none⟩ = some (.int .i64 (Q : Int)) := SP.out.f.cell 2
            clear hgk sp
            by_cases hlt : i < t
            · have ht : ((it s i x : Int) != (it s i (it s k x) : Int)) = true := by
                have := HT.out.2 i hlt
                simp; omega
              have c0f := SP.out.f.free 0
              have S5 := SP.out.set0 hgG hwG ((i : Int) + 1)
              have c2' : (wr.setCell ⟨G, 0, none⟩ (.int .i64 ((i : Int) + 1))).cell? ⟨G, 2, none⟩ = some (.int .i64 (Q : Int)) := S5.f.cell 2
              have c2f' := S5.f.free 2
              have S6 := S5.set2 hgG hwG ((Q : Int) + 2)
              have d1' : ((wr.setCell ⟨G, 0, none⟩ (.int .i64 ((i : Int) + 1))).setCell ⟨G, 2, none⟩ (.int .i64 ((Q : Int) + 2))).cell? ⟨gm, off + it s i x, none⟩ = some (.int .i64 (it s (i + 1) x : Int)) := S6.m _ i2
              have SS := Lib.hid S6
              have hq1 : Q ≤ 1000 := by omega
              clear S5 S6 hQ
              go_wp2_with fail
              go_roundg (t - (i + 1))
              case rel => exact ⟨i + 1, hlt, rfl, rfl, rfl, by rw [show ((p - 1 + k + k + 2 * (i + 1) : Nat) : Int) = (Q : Int) + 2 by have := HQ.out; omega, show ((i + 1 : Nat) : Int) = (i : Int) + 1 by omega]; exact SS.out⟩
              case measure => have := HGK3.out; omega
            · obtain rfl : i = t := by omega
              have ht : ((it s i x : Int) != (it s i (it s k x) : Int)) = false := by
                have := HT.out.1
                simp; omega
              have c1 : wr.cell? ⟨G, 1, none⟩ = some (.int .i64 (k : Int)) := SP.out.f.cell 1
              have g0 := SP.out.r.cell 0
              have g1 := SP.out.r.cell 1
              have g2 := SP.out.r.cell 2
              have g0f := SP.out.r.free 0
              have g1f := SP.out.r.free 1
              have g2f := SP.out.r.free 2
              have rF := ((SP.out.r.set_ 0 (.int .i64 (i : Int))).set_ 1 (.int .i64 (k : Int))).set_ 2 (.int .i64 (Q : Int))
              have RF := Lib.hid rF
              clear rF hQ d1 d2
              go_wp2_with fail
              have q0 := RF.out.cell 0
              have q1 := RF.out.cell 1
              have q2 := RF.out.cell 2
              refine bodyPost_ret (v := .tuple #[.agg #[.int .i64 i, .int .i64 k, .int .i64 Q], .bool true]) (by simp [results, Try.results34, go_sem, q0, q1, q2]) rfl ⟨?_, ?_⟩
              · have h2 : (Q : Int) = p - 1 + 2 * k + 2 * i := by have := HQ.out; omega
                rw [h2]
              · exact ((SP.out.b.setCell (p := ⟨w.heap.size, 0, none⟩) (Nat.le_refl _) _).setCell (p := ⟨w.heap.size, 1, none⟩) (Nat.le_refl _) _).setCell (p := ⟨w.heap.size, 2, none⟩) (Nat.le_refl _) _
    · have ht : ((it s (p - 1 + j) x : Int) != (it s (p - 1) x : Int)) = true := by
        have : it s (p - 1 + j) x ≠ it s (p - 1) x := by
          by_cases hpe : p = P
          · have := HJL.out hpe
            exact fit_no HRho.out hj1 (by omega)
          · exact no_fit HRho.out (HP.out.2.2 p H2.out (by omega)) hj1 hjp
        simp; omega
      have S7 := Lib.hid (SP.out.set2 hgG hwG (((p - 1 + j : Nat) : Int) + 1))
      have HE := Lib.hid hend
      clear hend
      by_cases hje : j = p
      · have hpl : p < P := by
          rcases Nat.lt_or_ge p P with h | h
          · exact h
          · have hpe : p = P := by omega
            have := HJL.out hpe
            exact absurd ⟨hpe, by omega⟩ HE.out
        obtain rfl := hje
        have q1 : j - 1 + j + 1 = 2 * j - 1 + 1 := by omega
        have q2 : j - 1 + j = 2 * j - 1 := by omega
        have Q1 := Lib.hid q1
        have Q2 := Lib.hid q2
        clear q1 q2
        go_wp2_with fail
        go_roundg (P + l - 1 - (2 * j - 1 + 1))
        case rel => exact ⟨2 * j, 1, by have := H2.out; have := HP.out.1; unfold Two at *; omega, by have := H2.out; have := HP.out.1; unfold Two at *; omega, by omega, by omega, fun _ => hlp, rfl, by rw [Q2.out], by rw [Q1.out], by go_num, rfl, by rw [← Q1.out]; exact S7.out⟩
        case measure => have := HGK.out; have := H2.out; have := HP.out.1; unfold Two at *; omega
      · have hjlt : j < p := by omega
        have hjb : ((j : Int) == (p : Int)) = false := by simp; omega
        go_wp2_with fail
        go_roundg (P + l - 1 - (p - 1 + (j + 1)))
        case rel => exact ⟨p, j + 1, H2.out, hpP, by omega, by omega, fun h => by have := HJL.out h; have h3 : ¬ j = l := fun h2 => HE.out ⟨h, h2⟩; omega, rfl, rfl, rfl, rfl, by go_num, S7.out⟩
        case measure => have := HGK.out; have h3 : ¬ (p = P ∧ j = l) := HE.out; have := HJL.out; have := H2.out; have := HP.out.1; unfold Two at *; omega

set_option maxHeartbeats 1000000 in
theorem sByPowers_no (A : Option Addr) (n c : Nat) (x : Int) (p : Nat → Int) (w : World) (hA : View w A n p) (hn : n ≤ 1099511627776) (h : ¬ (Valid n p ∧ 0 ≤ x ∧ x < n)) :
    Calls Try.prog 34 #[.slice A n c, .int .i64 x] w (RetFound w 0 0 0 false) := by
  have hb1 := (Below.refl w.heap.size w).alloc (Nat.le_refl _) (.cells #[.int .i64 0, .int .i64 0, .int .i64 0] 41)
  have R1 := Lib.hid (Bk.new w #[.int .i64 0, .int .i64 0, .int .i64 0] 41)
  by_cases hv : Valid n p
  · have HX : Hid (¬ (0 ≤ x ∧ x ≤ (n : Int) - 1)) := Lib.hid (fun h2 => h ⟨hv, h2.1, by omega⟩)
    have HV := Lib.hid hv
    have hn1 := hv.1
    clear hv h
    go_enter Try.func34, Try.ntmps34
    go_wp2_with fail
    refine (sMapOk_yes _ _ _ _ _ (hA.below hb1) HV.out).mono ?_
    rintro e w_ ⟨rfl, rfl⟩
    go_wp2_with fail
    refine (l1In_no _ _ _ _ HX.out).mono ?_
    rintro e w_ ⟨rfl, rfl⟩
    go_wp2
    have e0 := R1.out.cell 0
    have e1 := R1.out.cell 1
    have e2 := R1.out.cell 2
    exact bodyPost_ret (v := .tuple #[.agg #[.int .i64 0, .int .i64 0, .int .i64 0], .bool false]) (by simp [results, Try.results34, go_sem, e0, e1, e2]) rfl ⟨rfl, hb1⟩
  · have HV := Lib.hid hv
    clear hv h
    go_enter Try.func34, Try.ntmps34
    go_wp2_with fail
    refine (sMapOk_no _ _ _ _ _ (hA.below hb1) HV.out hn).mono ?_
    rintro e w_ ⟨rfl, rfl⟩
    go_wp2
    have e0 := R1.out.cell 0
    have e1 := R1.out.cell 1
    have e2 := R1.out.cell 2
    exact bodyPost_ret (v := .tuple #[.agg #[.int .i64 0, .int .i64 0, .int .i64 0], .bool false]) (by simp [results, Try.results34, go_sem, e0, e1, e2]) rfl ⟨rfl, hb1⟩

set_option maxHeartbeats 1000000 in
theorem byPowers_no (A : Option Addr) (n c : Nat) (x : Int) (p : Nat → Int) (w : World) (hA : View w A n p) (hn : n ≤ 1099511627776) (h : ¬ (Valid n p ∧ 0 ≤ x ∧ x < n)) :
    Calls Try.prog 35 #[.slice A n c, .int .i64 x] w (RetFound w 0 0 0 false) := by
  have HH := Lib.hid h
  clear h
  have hb1 := (Below.refl w.heap.size w).alloc (Nat.le_refl _) (.cells #[.int .i64 0, .int .i64 0, .int .i64 0] 41)
  have R1 := Lib.hid (Bk.new w #[.int .i64 0, .int .i64 0, .int .i64 0] 41)
  go_enter Try.func35, Try.ntmps35
  go_wp2_with fail
  go_step3
  go_wp2_with fail
  refine (thingOk_no _ _ _ _ _ _ (hA.below hb1) hn HH.out).mono ?_
  rintro e w_ ⟨rfl, rfl⟩
  go_wp2
  have e0 := R1.out.cell 0
  have e1 := R1.out.cell 1
  have e2 := R1.out.cell 2
  try rw [Exit.noGoto_ret]
  exact bodyPost_ret (v := .tuple #[.agg #[.int .i64 0, .int .i64 0, .int .i64 0], .bool false]) (by simp [results, Try.results35, go_sem, e0, e1, e2]) rfl ⟨rfl, hb1⟩

end Go.Proofs.Ytanncngbmgopnaa
