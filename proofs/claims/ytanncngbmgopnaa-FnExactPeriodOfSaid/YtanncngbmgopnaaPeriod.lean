/- The program's and the reference's PeriodOf. Conditions: a map, or none. -/
import Derived.Test.YtanncngbmgopnaaGcd
import Derived.Test.YtanncngbmgopnaaLoopsS
import Derived.Test.YtanncngbmgopnaaEqSS
import Derived.Test.YtanncngbmgopnaaWalker
import Derived.Deep.RegionWith
namespace Go.Proofs.Ytanncngbmgopnaa
open Go.RowKit
set_option linter.unusedVariables false

theorem grown_set1 {W w : World} {g : Nat} (h : W.grownBy w (some g)) (o : Nat) (u : Value) : W.grownBy (w.setCell ⟨g, o, none⟩ u) (some g) :=
  ⟨h.os, h.tape, h.output, by rw [World.size_setCell]; exact h.size, fun k hk hne => (Below.heap_setCell w ⟨g, o, none⟩ u k (fun e => hne (by rw [e]))).trans (h.block k hk hne)⟩

/-- One loop's length is taken into the period at block b. -/
def Folded (w : World) (b : Nat) (r : Nat) (w' : World) : Prop := Bk w' b #[.int .i64 (r : Int)] 3 ∧ w.grownBy w' (some b)

set_option maxHeartbeats 1000000 in
theorem fold_any (x L b : Nat) (w : World) (hx : 1 ≤ x) (hx2 : x ≤ 1000000) (hL : 1 ≤ L) (hL2 : L ≤ 7) (hb : Bk w b #[.int .i64 (x : Int)] 3) :
    Calls Try.prog 83 #[.int .i64 L, .pointer (some ⟨b, 0, none⟩)] w fun e w' => e = .returned (.tuple #[]) ∧ Folded w b (x / Nat.gcd x L * L) w' := by
  have HB := Lib.hid hb
  have hlt := hb.lt
  have c0 : w.cell? ⟨b, 0, none⟩ = some (.int .i64 (x : Int)) := hb.cell 0
  have f0 := hb.free 0
  have hst := step_le (a := x) hL2
  have hg1 := Nat.gcd_pos_of_pos_left L hx
  obtain ⟨G, hG⟩ : ∃ G, Nat.gcd x L = G := ⟨_, rfl⟩
  rw [hG] at hst hg1 ⊢
  have HGG := Lib.hid hG
  have C := fun (w : World) => commonDivisor_any x L w hx2 (by omega)
  rw [hG] at C
  have CC := Lib.hid C
  have hdl : x / G ≤ x := Nat.div_le_self _ _
  obtain ⟨d, hd⟩ : ∃ d, x / G = d := ⟨_, rfl⟩
  have e1 : (x : Int).tdiv (G : Int) = (d : Int) := by rw [Int.tdiv_eq_ediv_of_nonneg (by omega), ← hd]; exact (Int.natCast_ediv x G).symm
  have e1' : (x : Int) / (G : Int) = (d : Int) := by rw [← hd]; exact (Int.natCast_ediv x G).symm
  rw [hd] at hst hdl ⊢
  obtain ⟨m, hm⟩ : ∃ m, d * L = m := ⟨_, rfl⟩
  rw [hm] at hst ⊢
  have e2 : (d : Int) * (L : Int) = (m : Int) := by rw [← hm]; exact (Int.natCast_mul d L).symm
  have w1 : IntKind.i64.wrap (d : Int) = (d : Int) := IntWalk.i64_in _ (by omega)
  have w2 : IntKind.i64.wrap (m : Int) = (m : Int) := IntWalk.i64_in _ (by omega)
  have hG0 : ((G : Int) == 0) = false := by simp; omega
  clear hG C hd hm hb
  go_enter Try.func83, Try.ntmps83
  go_wp2_with fail
  go_region_with ((go_at_call 84; refine (CC.out _).mono ?_; rintro e w3 ⟨rfl, b3⟩; have B3 := Lib.hid b3; have c3 : w3.cell? ⟨b, 0, none⟩ = some (.int .i64 (x : Int)) := (b3.cell (p := ⟨b, 0, none⟩) hlt).trans c0; have f3 : w3.frozen? ⟨b, 0, none⟩ = false := (b3.frozen (p := ⟨b, 0, none⟩) hlt).trans f0; clear b3))
  all_goals
    have bk := (HB.out.below (Below.refl _ _).drew).below B3.out
    have bl : Below w.heap.size w w3 := below_more (Below.refl _ _).drew B3.out
    have b9 : Bk (w3.setCell ⟨b, 0, none⟩ (.int .i64 (m : Int))) b #[.int .i64 (m : Int)] 3 := bk.set_ 0 _
    have g9 := grown_set1 (grownBy_below bl (some b)) 0 (.int .i64 (m : Int))
    go_end0
    exact ⟨rfl, b9, g9⟩

/-- What impl.PeriodOf holds at each round: the period at block b, the rows behind it. -/
structure Pd (W wr : World) (b : Nat) (v : Value) (m : Nat) (vs : Nat → Value) (xs : Nat → List Int) (r : Nat) : Prop where
  k : Bk wr b #[.int .i64 (r : Int)] 3
  o : OwnSS wr (b + 1) v m vs xs
  b : Below W.heap.size W wr

set_option maxHeartbeats 1000000 in
theorem periodOf_yes (A : Option Addr) (n c : Nat) (s : Nat → Nat) (w : World) (hA : View w A n (up s)) (hs : Mp n s) :
    Calls Try.prog 52 #[.slice A n c] w (RetInt w ((perTo (fun i => (rows s n i).length) (heads s n).length : Nat) : Int)) := by
  have hn7 := hs.2.1
  have hm7 := heads_le s n
  obtain ⟨m, hm⟩ : ∃ m, (heads s n).length = m := ⟨_, rfl⟩
  have HL : Hid (∀ i, i < m → 1 ≤ (rows s n i).length ∧ (rows s n i).length ≤ 7) := Lib.hid (fun i hi => by have := rows_len hs (i := i) (by omega); omega)
  have C := fun (w : World) (hV : View w A n (up s)) => loopsOf_yes A n c s w hV hs
  simp only [hm] at C
  have CC := Lib.hid C
  rw [hm] at hm7 ⊢
  have HS := Lib.hid hs
  clear hs C hm
  have HP1 : Hid (∀ j, j ≤ m → 1 ≤ perTo (fun i => (rows s n i).length) j) := Lib.hid (perTo_pos (fun i hi => (HL.out i hi).1))
  have HP2 : Hid (∀ j, j ≤ m → perTo (fun i => (rows s n i).length) j ≤ 823543) := Lib.hid (perTo_bound (by omega) (fun i hi => (HL.out i hi).2))
  have hb1 := (Below.refl w.heap.size w).alloc (Nat.le_refl _) (.cells #[.int .i64 1] 3)
  have k1 := Lib.hid (Bk.new w #[.int .i64 1] 3)
  have V1 := Lib.hid (hA.below hb1)
  have B1 := Lib.hid hb1
  clear hb1
  go_enter Try.func52, Try.ntmps52
  go_wp2_with fail
  refine (mapOk_yes _ _ _ _ _ hA HS.out.valid).mono ?_
  rintro e w_ ⟨rfl, rfl⟩
  go_wp2_with fail
  refine (CC.out _ V1.out).mono ?_
  rintro e w2 ⟨A2, c2, vs, rfl, o2, b2⟩
  have K2 := k1.out.below b2
  have B2 := below_more B1.out b2
  rw [World.size_alloc] at o2
  have PD : Hid (Pd w w2 w.heap.size (.slice A2 m c2) m vs (rows s n) 1) := Lib.hid ⟨K2, o2, B2⟩
  clear K2 B2 o2 b2 k1 V1 B1 CC hA
  go_wp2
  go_loopw [14] (fun i wr => ∃ j : Nat, j ≤ m ∧ i = .int .i64 j ∧ Pd w wr w.heap.size (.slice A2 m c2) m vs (rows s n) (perTo (fun i => (rows s n i).length) j)) (fun i _ => m - (intOf i).toNat)
  case atStart => exact ⟨0, Nat.zero_le _, rfl, PD.out⟩
  case round =>
    obtain ⟨j, hj, rfl, pd⟩ := hrel
    have PJ := Lib.hid pd
    clear pd PD
    have hp1 := HP1.out j hj
    have hp2 := HP2.out j hj
    obtain ⟨P, hP⟩ : ∃ P, perTo (fun i => (rows s n i).length) j = P := ⟨_, rfl⟩
    rw [hP] at PJ hp1 hp2
    have HPP := Lib.hid hP
    clear hP
    by_cases hlt : j < m
    · obtain ⟨g, off, rfl, hg, hc⟩ := PJ.out.o.view (by omega)
      obtain ⟨B5, c5, d5, v5⟩ := hc j hlt
      have hl1 := (HL.out j hlt).1
      have hl2 := (HL.out j hlt).2
      have HN : Hid (perTo (fun i => (rows s n i).length) (j + 1) = P / Nat.gcd P (rows s n j).length * (rows s n j).length) := Lib.hid (by rw [← HPP.out]; rfl)
      clear hc v5
      obtain ⟨L, hL⟩ : ∃ L, (rows s n j).length = L := ⟨_, rfl⟩
      rw [hL] at d5 hl1 hl2 HN
      clear hL
      go_wp2_with fail
      refine (fold_any P L w.heap.size _ hp1 (by omega) hl1 hl2 PJ.out.k).mono ?_
      rintro e w5 ⟨rfl, k5, g5⟩
      have o5 := PJ.out.o.outK (Out.of_grown (lo := w.heap.size) (hi := w.heap.size + 1) g5 (fun g e => by injection e; omega)) PJ.out.o.inside (.inr (Nat.le_refl _))
      have b5 := PJ.out.b.grown g5 PJ.out.b.size (fun k e => by injection e; omega)
      have P5 := Lib.hid (Pd.mk (W := w) k5 o5 b5)
      clear k5 g5 o5 b5 d5 PJ
      go_wp2
      go_roundw
      case rel => exact ⟨j + 1, by omega, by go_num, by rw [HN.out]; exact P5.out⟩
      case measure => simp [intOf]; omega
    · obtain rfl : j = m := by omega
      have c9 : wr.cell? ⟨w.heap.size, 0, none⟩ = some (.int .i64 (P : Int)) := PJ.out.k.cell 0
      go_wp2
      go_ret
      exact ⟨ret_int (by rw [HPP.out]), PJ.out.b⟩

set_option maxHeartbeats 400000 in
theorem periodOf_no (A : Option Addr) (n c : Nat) (p : Nat → Int) (w : World) (hA : View w A n p) (hn : n ≤ 1099511627776) (hv : ¬ Valid n p) :
    Calls Try.prog 52 #[.slice A n c] w (RetInt w (-1)) := by
  have HV := Lib.hid hv
  clear hv
  go_enter Try.func52, Try.ntmps52
  go_wp2_with fail
  refine (mapOk_no _ _ _ _ _ hA HV.out hn).mono ?_
  rintro e w_ ⟨rfl, rfl⟩
  go_wp2
  go_ret
  exact ⟨rfl, Below.refl _ _⟩

set_option maxHeartbeats 1000000 in
theorem sPeriodOf_yes (A : Option Addr) (n c : Nat) (s : Nat → Nat) (w : World) (hA : View w A n (up s)) (hs : Mp n s) :
    Calls Try.prog 51 #[.slice A n c] w (RetInt w ((perTo (fun i => (rows s n i).length) (heads s n).length : Nat) : Int)) := by
  have hn7 := hs.2.1
  have hm7 := heads_le s n
  obtain ⟨m, hm⟩ : ∃ m, (heads s n).length = m := ⟨_, rfl⟩
  have HL : Hid (∀ i, i < m → 1 ≤ (rows s n i).length ∧ (rows s n i).length ≤ 7) := Lib.hid (fun i hi => by have := rows_len hs (i := i) (by omega); omega)
  have C := fun (w : World) (hV : View w A n (up s)) => sLoopsOf_yes A n c s w hV hs
  simp only [hm] at C
  have CC := Lib.hid C
  rw [hm] at hm7 ⊢
  have HS := Lib.hid hs
  clear hs C hm
  have HP1 : Hid (∀ j, j ≤ m → 1 ≤ perTo (fun i => (rows s n i).length) j) := Lib.hid (perTo_pos (fun i hi => (HL.out i hi).1))
  have HP2 : Hid (∀ j, j ≤ m → perTo (fun i => (rows s n i).length) j ≤ 823543) := Lib.hid (perTo_bound (by omega) (fun i hi => (HL.out i hi).2))
  go_enter Try.func51, Try.ntmps51
  go_wp2_with fail
  refine (sMapOk_yes _ _ _ _ _ hA HS.out.valid).mono ?_
  rintro e w_ ⟨rfl, rfl⟩
  go_wp2_with fail
  refine (CC.out _ hA).mono ?_
  rintro e w2 ⟨A2, c2, vs, rfl, o2, b2⟩
  have O2 := Lib.hid o2.view
  have B2 := Lib.hid b2
  clear o2 b2 CC hA
  go_wp2
  go_loop [3, 5] (fun q i => ∃ j : Nat, j ≤ m ∧ i = .int .i64 j ∧ q = .int .i64 ((perTo (fun i => (rows s n i).length) j : Nat) : Int)) (fun _ i => m - (intOf i).toNat)
  case atStart => exact ⟨0, Nat.zero_le _, rfl, rfl⟩
  case round =>
    obtain ⟨j, hj, rfl, rfl⟩ := hrel
    have hp1 := HP1.out j hj
    have hp2 := HP2.out j hj
    obtain ⟨P, hP⟩ : ∃ P, perTo (fun i => (rows s n i).length) j = P := ⟨_, rfl⟩
    rw [hP] at hp1 hp2 ⊢
    have HPP := Lib.hid hP
    clear hP
    by_cases hlt : j < m
    · obtain ⟨g, off, rfl, hg, hc⟩ := O2.out (by omega)
      obtain ⟨B5, c5, d5, v5⟩ := hc j hlt
      have hl1 := (HL.out j hlt).1
      have hl2 := (HL.out j hlt).2
      have HN : Hid (perTo (fun i => (rows s n i).length) (j + 1) = P / Nat.gcd P (rows s n j).length * (rows s n j).length) := Lib.hid (by rw [← HPP.out]; rfl)
      clear hc v5
      obtain ⟨L, hL⟩ : ∃ L, (rows s n j).length = L := ⟨_, rfl⟩
      rw [hL] at d5 hl1 hl2 HN
      clear hL
      go_wp2_with fail
      refine (l4Common_any P L _ hp1 (by omega) hl1 hl2).mono ?_
      rintro e w_ ⟨rfl, rfl⟩
      rw [← HN.out]
      go_wp2
      go_round
      case rel => exact ⟨j + 1, by omega, by go_num, rfl⟩
      case measure => simp [intOf]; omega
    · obtain rfl : j = m := by omega
      go_wp2
      go_ret
      exact ⟨ret_int (by rw [HPP.out]), B2.out⟩

set_option maxHeartbeats 400000 in
theorem sPeriodOf_no (A : Option Addr) (n c : Nat) (p : Nat → Int) (w : World) (hA : View w A n p) (hn : n ≤ 1099511627776) (hv : ¬ Valid n p) :
    Calls Try.prog 51 #[.slice A n c] w (RetInt w (-1)) := by
  have HV := Lib.hid hv
  clear hv
  go_enter Try.func51, Try.ntmps51
  go_wp2_with fail
  refine (sMapOk_no _ _ _ _ _ hA HV.out hn).mono ?_
  rintro e w_ ⟨rfl, rfl⟩
  go_wp2
  go_ret
  exact ⟨rfl, Below.refl _ _⟩

end Go.Proofs.Ytanncngbmgopnaa
