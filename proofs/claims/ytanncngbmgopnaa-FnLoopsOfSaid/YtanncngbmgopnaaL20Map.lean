/- l20Map: a list of at most eight ints, drawn. Condition: how often was drawn. -/
import Derived.Test.YtanncngbmgopnaaOdd
import Derived.Test.YtanncngbmgopnaaApp
namespace Go.Proofs.Ytanncngbmgopnaa
open Go.RowKit
set_option linter.unusedVariables false

theorem own_mt (w : World) : Own (w.alloc (.cells #[] 3)) w.heap.size (.slice (some ⟨w.heap.size, 0, none⟩) 0 0) [] := World.ownsRow_lit w #[] 0 (Nat.le_refl _) (Nat.zero_le _) rfl
theorem below_mt (w : World) : Below w.heap.size w (w.alloc (.cells #[] 3)) := (Below.refl _ _).alloc (Nat.le_refl _) _

/-- A list of at most eight ints of the call's own; the reader at b has gone on. -/
def RetMap (w : World) (b p n : Nat) (e : Ending) (w' : World) : Prop :=
  ∃ A k c zs, k ≤ 8 ∧ e = .returned (.slice A k c) ∧ Own w' w.heap.size (.slice A k c) (lst k zs) ∧ (∃ p', p' ≤ p + 30 ∧ Rd w' b p') ∧ Below b w w' ∧ w.heap.size ≤ w'.heap.size ∧ (n = 0 → Valid k zs)

theorem Rd.keep {w w' : World} {b p B : Nat} (h : Rd w b p) (hb : Below B w w') (hB : b < B) : Rd w' b p := by
  obtain ⟨A, n, c, q, h1, h2, h3⟩ := h
  refine ⟨A, n, c, q, (hb.block b hB).trans h1, h2, fun hn => ?_⟩
  obtain ⟨gg, off, e, hlt, hc⟩ := h3 hn
  exact ⟨gg, off, e, hlt, fun k hk => ⟨(hb.cell (p := ⟨gg, off + k, none⟩) (Nat.lt_trans hlt hB)).trans (hc k hk).1, (hc k hk).2⟩⟩

/-- What is held of the list while it is drawn. -/
def Drawn (w wr : World) (b p : Nat) (v : Value) (k m q : Nat) : Prop :=
  ∃ xs : List Int, Own wr w.heap.size v xs ∧ xs.length = k ∧ (∀ z ∈ xs, 0 ≤ z ∧ z < m) ∧ (∃ p', p' ≤ p + q ∧ Rd wr b p') ∧ Below b w wr ∧ w.heap.size ≤ wr.heap.size

theorem Drawn.form {w wr : World} {b p k m q : Nat} {v : Value} (h : Drawn w wr b p v k m q) : ∃ A c, v = .slice A k c ∧ (0 < k → ∃ g, A = some ⟨g, 0, none⟩ ∧ w.heap.size ≤ g ∧ g < wr.heap.size) := by
  obtain ⟨xs, how, rfl, _⟩ := h
  exact how.form
theorem Drawn.pick {w wr w' : World} {b p k m q : Nat} {v : Value} (h : Drawn w wr b p v k m q) (hb : b < w.heap.size) {p' : Nat} (hp : p' ≤ p + q + 1) (hr : Rd w' b p') (hg : wr.grownBy w' (some b)) : Drawn w w' b p v k m (q + 1) := by
  obtain ⟨xs, how, hl, hz, _, hbl, hs⟩ := h
  refine ⟨xs, how.kept hg (.inr fun e => ?_), hl, hz, ⟨p', by omega, hr⟩, hbl.grown hg (by omega) (fun k e => by injection e; omega), Nat.le_trans hs hg.size⟩
  have := (how.block b e).1
  omega
theorem Drawn.retMap {w wr : World} {b p k m q n : Nat} {v : Value} {e : Ending} (h : Drawn w wr b p v k m q) (he : e = .returned v) (hq : q ≤ 30) (hk : k ≤ 8) (hn : n = 0 → 1 ≤ k ∧ k ≤ 7 ∧ m = k) : RetMap w b p n e wr := by
  obtain ⟨xs, how, rfl, hz, ⟨p', hp', hr⟩, hbl, hs⟩ := h
  obtain ⟨A, c, rfl, _⟩ := how.form
  rw [← lst_of_list xs] at how
  simp only [length_lst] at how
  refine ⟨A, xs.length, c, nth xs, hk, he, by simpa [length_lst] using how, ⟨p', by omega, hr⟩, hbl, hs, fun h0 => ?_⟩
  obtain ⟨h1, h2, h3⟩ := hn h0
  refine ⟨h1, h2, fun j hj => ?_⟩
  have hm : nth xs j ∈ xs := by
    unfold nth
    rw [List.getD_eq_getElem?_getD, List.getElem?_eq_getElem hj]
    exact List.getElem_mem _
  have := hz _ hm
  omega

theorem RetMap.of_ {w wr : World} {b p p' n : Nat} {v : Value} {xs : List Int} {e : Ending} (he : e = .returned v) (how : Own wr w.heap.size v xs) (hk : xs.length ≤ 8) (hp : p' ≤ p + 30) (hr : Rd wr b p') (hbl : Below b w wr) (hs : w.heap.size ≤ wr.heap.size) (hn : n ≠ 0) : RetMap w b p n e wr := by
  obtain ⟨A, c, rfl, _⟩ := how.form
  rw [← lst_of_list xs] at how
  simp only [length_lst] at how
  exact ⟨A, xs.length, c, nth xs, hk, he, by simpa [length_lst] using how, ⟨p', hp, hr⟩, hbl, hs, fun h0 => absurd h0 hn⟩
theorem Drawn.keep {w wr w' : World} {b p k m q : Nat} {v : Value} (h : Drawn w wr b p v k m q) (hb : Below wr.heap.size wr w') : Drawn w w' b p v k m q := by
  obtain ⟨xs, how, hl, hz, ⟨p', hp, hr⟩, hbl, hs⟩ := h
  have := hr.lt
  exact ⟨xs, how.below hb, hl, hz, ⟨p', hp, hr.below hb⟩, hbl.trans (hb.mono (by omega)), Nat.le_trans hs hb.size⟩

set_option maxHeartbeats 4000000 in
theorem l20Map_any (b p n : Nat) (w : World) (hr : Rd w b p) (hm : n ≤ 1000000) (hp : p ≤ 1000) :
    Calls Try.prog 61 #[.pointer (some ⟨b, 0, none⟩), .int .i64 7, .int .i64 n] w (RetMap w b p n) := by
  have hbR := hr.lt
  have HR := Lib.hid hr
  clear hr
  go_enter Try.func61, Try.ntmps61
  go_wp2_with fail
  refine (pick_any b p 7 _ HR.out (by omega) (by omega) (by omega)).mono ?_
  rintro e w1 ⟨k0, hk0, rfl, r1, g1⟩
  obtain ⟨th, hth, hth1, hth7⟩ : ∃ th : Nat, (1 : Int) + k0 = th ∧ 1 ≤ th ∧ th ≤ 7 := ⟨1 + k0, by omega, by omega, by omega⟩
  have D0 : Drawn w (w1.alloc (.cells #[] 3)) b p (.slice (some ⟨w1.heap.size, 0, none⟩) 0 0) 0 th 1 :=
    ⟨[], (own_mt w1).mono g1.size, rfl, fun z hz => by simp at hz, ⟨p + 1, by omega, r1.below (below_mt w1)⟩, ((Below.refl _ _).grown g1 (by omega) (fun k e => by injection e; omega)).trans ((below_mt w1).mono (by have := g1.size; omega)), by have := g1.size; have := (below_mt w1).size; omega⟩
  have DD0 := Lib.hid D0
  clear D0 r1 g1 HR hk0
  go_wp2_with fail
  go_loopw [8, 9] (fun v i wr => ∃ k : Nat, k ≤ th ∧ i = .int .i64 k ∧ Drawn w wr b p v k th (k + 1)) (fun _ i _ => th - (intOf i).toNat)
  case atStart => exact ⟨0, Nat.zero_le _, rfl, DD0.out⟩
  case round =>
    obtain ⟨k, hk, rfl, hd⟩ := hrel
    have HD := Lib.hid hd
    clear hd
    by_cases hlt : k < th
    · obtain ⟨xs, how, hxl, hxz, ⟨p1, hp1, rd1⟩, hb1, hs1⟩ := HD.out
      have HO := Lib.hid how
      go_wp2_with fail
      refine (pick_any b p1 th _ rd1 hth1 (by omega) (by omega)).mono ?_
      rintro e w2 ⟨z, hz, rfl, r2, g2⟩
      have how2 := HO.out.kept g2 (.inr fun e => by have := (HO.out.block b e).1; omega)
      have hb2 := hb1.grown g2 (by omega) (fun k e => by injection e; omega)
      have hs2 := Nat.le_trans hs1 g2.size
      have R2 := Lib.hid r2
      have HB2 := Lib.hid hb2
      have HO2 := Lib.hid how2
      clear r2 hb2 how2 rd1 hb1
      go_wp2_with (at_builtin; refine wpList_app1 rfl (.tmp 22) (.tmp 26) rfl w.heap.size _ _ rfl HO2.out _ rfl (by omega) hs2 ?_; intro v1 w3 how3 _ hb3)
      have hd3 : Drawn w w3 b p v1 (k + 1) th (k + 2) := ⟨xs ++ [(z : Int)], how3, by simp [hxl], fun y hy => by
        rcases List.mem_append.1 hy with hy | hy
        · exact hxz y hy
        · simp at hy; omega, ⟨p1 + 1, by omega, R2.out.keep hb3 hbR⟩, HB2.out.trans (hb3.mono (by omega)), Nat.le_trans hs2 hb3.size⟩
      have HD3 := Lib.hid hd3
      clear hd3 how3 hb3
      go_roundw
      case rel => exact ⟨k + 1, by omega, by go_num, HD3.out⟩
      case measure => simp [intOf]; omega
    · obtain rfl : k = th := by omega
      obtain ⟨A1, c1, rfl, hA1⟩ := HD.out.form
      obtain ⟨g, rfl, hgR, hgS⟩ := hA1 (by omega)
      obtain ⟨_, _, _, _, ⟨p3, hp3, rd3⟩, _, _⟩ := HD.out
      go_wp2_with fail
      refine (pick_any b p3 3 _ rd3 (by omega) (by omega) (by omega)).mono ?_
      rintro e w4 ⟨k4, hk4, rfl, r4, g4⟩
      have HD4 := Lib.hid (HD.out.pick hbR (by omega) r4 g4)
      clear rd3 r4 g4 HD
      by_cases hk40 : k4 = 0
      · obtain rfl : k4 = 0 := by omega
        go_wp2_with fail
        go_loopw [10, 11] (fun i a wr => ∃ j : Nat, j ≤ k ∧ i = .int .i64 j ∧ Drawn w wr b p (.slice (some ⟨g, 0, none⟩) k c1) k k (k + 2 + j)) (fun i _ _ => k - (intOf i).toNat)
        case atStart => exact ⟨0, Nat.zero_le _, rfl, HD4.out⟩
        case round =>
          obtain ⟨j, hj, rfl, hd⟩ := hrel
          have HDr := Lib.hid hd
          clear hd
          by_cases hjt : j < k
          · obtain ⟨ys, how, hxl, hxz, ⟨p1, hp1, rd1⟩, hb1, hs1⟩ := HDr.out
            have HO := Lib.hid how
            have HZ := Lib.hid hxz
            clear how hxz
            go_wp2_with fail
            refine (pick_any b p1 (j + 1) _ rd1 (by omega) (by omega) (by omega)).mono ?_
            rintro e w2 ⟨z, hz, rfl, r2, g2⟩
            have how2 := HO.out.kept g2 (.inr fun e => by have := (HO.out.block b e).1; omega)
            have hb2 := hb1.grown g2 (by omega) (fun k e => by injection e; omega)
            have hs2 := Nat.le_trans hs1 g2.size
            have R2 := Lib.hid r2
            have HB2 := Lib.hid hb2
            have cs := how2.cellsAt z (by omega)
            have cj := how2.cellsAt j (by omega)
            have cf := how2.frozen j
            have cfz := how2.frozen z
            have hcap := how2.cap
            have how3 := (how2.stored j (ys.getD z 0)).1
            have how4 := (how3.stored z (j : Int)).1
            have g3 := (how2.stored j (ys.getD z 0)).2
            have g4 := (how3.stored z (j : Int)).2
            have R4 := Lib.hid ((R2.out.grown g3 (by omega)).grown g4 (by omega))
            have B4 := Lib.hid ((HB2.out.grown g3 (by omega) (fun k e => by injection e; omega)).grown g4 (by rw [World.size_setCell]; omega) (fun k e => by injection e; omega))
            have hsz : w.heap.size ≤ ((w2.setCell ⟨g, j, none⟩ (.int .i64 (ys.getD z 0))).setCell ⟨g, z, none⟩ (.int .i64 (j : Int))).heap.size := by rw [World.size_setCell, World.size_setCell]; exact hs2
            have HSZ := Lib.hid hsz
            have HO4 := Lib.hid how4
            have hzm : ∀ y ∈ (ys.set j (ys.getD z 0)).set z (j : Int), 0 ≤ y ∧ y < k := by
              intro y hy
              rcases List.mem_or_eq_of_mem_set hy with hy | rfl
              · rcases List.mem_or_eq_of_mem_set hy with hy | rfl
                · exact HZ.out y hy
                · refine HZ.out _ ?_
                  rw [List.getD_eq_getElem?_getD, List.getElem?_eq_getElem (by omega)]
                  exact List.getElem_mem _
              · omega
            have HZM := Lib.hid hzm
            have hlz : ((ys.set j (ys.getD z 0)).set z (j : Int)).length = k := by simp [hxl]
            have HLZ := Lib.hid hlz
            clear hlz hzm how4 how3 how2 hsz g3 g4 r2 hb2 rd1 hb1 hxl
            by_cases hzj : z = j
            · subst hzj
              go_wp2
              go_roundw
              case rel => exact ⟨z + 1, by omega, by go_num, _, HO4.out, HLZ.out, HZM.out, ⟨p1 + 1, by omega, R4.out⟩, B4.out, HSZ.out⟩
              case measure => simp [intOf]; omega
            · go_wp2
              go_roundw
              case rel => exact ⟨j + 1, by omega, by go_num, _, HO4.out, HLZ.out, HZM.out, ⟨p1 + 1, by omega, R4.out⟩, B4.out, HSZ.out⟩
              case measure => simp [intOf]; omega
          · obtain rfl : j = k := by omega
            have HD4 := HDr
            clear HDr
            obtain ⟨_, _, _, _, ⟨p5, hp5, rd5⟩, _, _⟩ := HD4.out
            go_wp2_with fail
            refine (odd_any b p5 n _ rd5 hm (by omega)).mono ?_
            rintro e w5 ⟨t, ht0, rfl, ⟨p6, hp6, r6⟩, g6⟩
            have HD6 := Lib.hid (HD4.out.pick hbR (p' := p6) (by omega) r6 g6)
            clear rd5 r6 g6 HD4
            cases t with
            | false =>
              go_wp2
              go_ret
              exact HD6.out.retMap rfl (by omega) (by omega) (fun _ => ⟨by omega, by omega, rfl⟩)
            | true =>
              have hn0 : n ≠ 0 := fun h => by have := ht0 h; cases this
              have HN0 := Lib.hid hn0
              clear hn0 ht0
              obtain ⟨_, _, _, _, ⟨p7, hp7, rd7⟩, _, _⟩ := HD6.out
              go_wp2_with fail
              refine (pick_any b p7 3 _ rd7 (by omega) (by omega) (by omega)).mono ?_
              rintro e w7 ⟨k7, hk7, rfl, r7, g7⟩
              have HD7 := Lib.hid (HD6.out.pick hbR (by omega) r7 g7)
              clear rd7 r7 g7 HD6
              obtain ⟨xs, how, hxl, hxz, ⟨p8, hp8, rd8⟩, hb8, hs8⟩ := HD7.out
              have HO8 := Lib.hid how
              have R8 := Lib.hid rd8
              have B8 := Lib.hid hb8
              have hlt8 := rd8.lt
              clear how rd8 hb8 HD7 hxz
              rcases Nat.lt_or_ge k7 1 with h0 | h0
              · obtain rfl : k7 = 0 := by omega
                go_wp2
                go_ret
                exact RetMap.of_ rfl ((own_mt w7).mono hs8) (by simp) (by omega) (R8.out.below (below_mt w7)) (B8.out.trans ((below_mt w7).mono (by omega))) (Nat.le_trans hs8 (below_mt w7).size) HN0.out
              · rcases Nat.lt_or_ge k7 2 with h1 | h1
                · obtain rfl : k7 = 1 := by omega
                  have hb9 := (Below.refl w7.heap.size w7).alloc (Nat.le_refl _) (.cells #[.int .i64 (-1), .int .i64 j] 3)
                  have bk9 := Bk.new w7 #[.int .i64 (-1), .int .i64 j] 3
                  have R9 := Lib.hid (R8.out.below hb9)
                  have HO9 := Lib.hid (HO8.out.below hb9)
                  have B9 := Lib.hid (B8.out.trans (hb9.mono (by omega)))
                  have hs9 := Nat.le_trans hs8 hb9.size
                  clear hb9 HO8 R8 B8
                  go_wp2_with fail
                  refine (pick_any b p8 2 _ R9.out (by omega) (by omega) (by omega)).mono ?_
                  rintro e w9 ⟨k9, hk9, rfl, r9, g9⟩
                  have bkA : Bk w9 w7.heap.size _ _ := (g9.block w7.heap.size bk9.lt (fun e => by injection e; omega)).trans bk9
                  have hoA := HO9.out.kept g9 (.inr fun e => by have := (HO9.out.block b e).1; omega)
                  have hsA := Nat.le_trans hs9 g9.size
                  have HBA := Lib.hid (B9.out.grown g9 (by omega) (fun k e => by injection e; omega))
                  have RA := Lib.hid r9
                  have HOA := Lib.hid hoA
                  have cl0 := bkA.cell 0
                  have cl1 := bkA.cell 1
                  have cs0 := hoA.cellsAt 0 (by omega)
                  have cf0 := hoA.frozen 0
                  have hcap := hoA.cap
                  clear r9 g9 hoA bkA bk9 B9 R9 HO9
                  have hst := fun u : Int => RetMap.of_ (b := b) (p := p) (n := n) (p' := p8 + 1) (e := .returned (.slice (some ⟨g, 0, none⟩) j c1)) rfl (HOA.out.stored 0 u).1 (by rw [List.length_set]; omega) (by omega) (RA.out.grown (HOA.out.stored 0 u).2 (by omega)) (HBA.out.setCell (p := ⟨g, 0, none⟩) (by show b ≤ g; omega) _) (by rw [World.size_setCell]; exact hsA) HN0.out
                  have HST := Lib.hid hst
                  clear hst
                  rcases Nat.lt_or_ge k9 1 with h2 | h2
                  · obtain rfl : k9 = 0 := by omega
                    go_wp2
                    go_ret
                    exact HST.out _
                  · obtain rfl : k9 = 1 := by omega
                    go_wp2
                    go_ret
                    exact HST.out _
                · obtain rfl : k7 = 2 := by omega
                  obtain ⟨i0, hi0, hz0, hz1, hz2⟩ := info_parts int_info
                  go_wp2_with (at_make; refine wpList_make_full _ rfl _ _ 22 rfl w7.heap.size 3 i0 (.int .i64 0) 1 Try.underlying22 hi0 hz0 hz1 .i64 .i64 _ _ 8 rfl rfl rfl rfl (by rw [hz2]; omega) (by unfold maxLen; omega) (Nat.le_refl _) ?_; intro w9 hown9 hgr9)
                  have how9 := Own.made hown9
                  have hb9 : Below w7.heap.size w7 w9 := (Below.refl _ _).grown hgr9 (Nat.le_refl _) (by intro k hk; cases hk)
                  clear hown9 hgr9
                  go_wp2
                  go_ret
                  exact RetMap.of_ rfl (how9.mono hs8) (by simp) (by omega) (R8.out.below hb9) (B8.out.trans (hb9.mono (by omega))) (Nat.le_trans hs8 hb9.size) HN0.out
      · have hk4b : ((k4 : Int) == 0) = false := by simp; omega
        obtain ⟨_, _, _, _, ⟨p5, hp5, rd5⟩, _, _⟩ := HD4.out
        go_wp2_with fail
        refine (odd_any b p5 n _ rd5 hm (by omega)).mono ?_
        rintro e w5 ⟨t, ht0, rfl, ⟨p6, hp6, r6⟩, g6⟩
        have HD6 := Lib.hid (HD4.out.pick hbR (p' := p6) (by omega) r6 g6)
        clear rd5 r6 g6 HD4
        cases t with
        | false =>
          go_wp2
          go_ret
          exact HD6.out.retMap rfl (by omega) (by omega) (fun _ => ⟨by omega, by omega, rfl⟩)
        | true =>
          have hn0 : n ≠ 0 := fun h => by have := ht0 h; cases this
          have HN0 := Lib.hid hn0
          clear hn0 ht0
          obtain ⟨_, _, _, _, ⟨p7, hp7, rd7⟩, _, _⟩ := HD6.out
          go_wp2_with fail
          refine (pick_any b p7 3 _ rd7 (by omega) (by omega) (by omega)).mono ?_
          rintro e w7 ⟨k7, hk7, rfl, r7, g7⟩
          have HD7 := Lib.hid (HD6.out.pick hbR (by omega) r7 g7)
          clear rd7 r7 g7 HD6
          obtain ⟨xs, how, hxl, hxz, ⟨p8, hp8, rd8⟩, hb8, hs8⟩ := HD7.out
          have HO8 := Lib.hid how
          have R8 := Lib.hid rd8
          have B8 := Lib.hid hb8
          have hlt8 := rd8.lt
          clear how rd8 hb8 HD7 hxz
          rcases Nat.lt_or_ge k7 1 with h0 | h0
          · obtain rfl : k7 = 0 := by omega
            go_wp2
            go_ret
            exact RetMap.of_ rfl ((own_mt w7).mono hs8) (by simp) (by omega) (R8.out.below (below_mt w7)) (B8.out.trans ((below_mt w7).mono (by omega))) (Nat.le_trans hs8 (below_mt w7).size) HN0.out
          · rcases Nat.lt_or_ge k7 2 with h1 | h1
            · obtain rfl : k7 = 1 := by omega
              have hb9 := (Below.refl w7.heap.size w7).alloc (Nat.le_refl _) (.cells #[.int .i64 (-1), .int .i64 k] 3)
              have bk9 := Bk.new w7 #[.int .i64 (-1), .int .i64 k] 3
              have R9 := Lib.hid (R8.out.below hb9)
              have HO9 := Lib.hid (HO8.out.below hb9)
              have B9 := Lib.hid (B8.out.trans (hb9.mono (by omega)))
              have hs9 := Nat.le_trans hs8 hb9.size
              clear hb9 HO8 R8 B8
              go_wp2_with fail
              refine (pick_any b p8 2 _ R9.out (by omega) (by omega) (by omega)).mono ?_
              rintro e w9 ⟨k9, hk9, rfl, r9, g9⟩
              have bkA : Bk w9 w7.heap.size _ _ := (g9.block w7.heap.size bk9.lt (fun e => by injection e; omega)).trans bk9
              have hoA := HO9.out.kept g9 (.inr fun e => by have := (HO9.out.block b e).1; omega)
              have hsA := Nat.le_trans hs9 g9.size
              have HBA := Lib.hid (B9.out.grown g9 (by omega) (fun k e => by injection e; omega))
              have RA := Lib.hid r9
              have HOA := Lib.hid hoA
              have cl0 := bkA.cell 0
              have cl1 := bkA.cell 1
              have cs0 := hoA.cellsAt 0 (by omega)
              have cf0 := hoA.frozen 0
              have hcap := hoA.cap
              clear r9 g9 hoA bkA bk9 B9 R9 HO9
              have hst := fun u : Int => RetMap.of_ (b := b) (p := p) (n := n) (p' := p8 + 1) (e := .returned (.slice (some ⟨g, 0, none⟩) k c1)) rfl (HOA.out.stored 0 u).1 (by rw [List.length_set]; omega) (by omega) (RA.out.grown (HOA.out.stored 0 u).2 (by omega)) (HBA.out.setCell (p := ⟨g, 0, none⟩) (by show b ≤ g; omega) _) (by rw [World.size_setCell]; exact hsA) HN0.out
              have HST := Lib.hid hst
              clear hst
              rcases Nat.lt_or_ge k9 1 with h2 | h2
              · obtain rfl : k9 = 0 := by omega
                go_wp2
                go_ret
                exact HST.out _
              · obtain rfl : k9 = 1 := by omega
                go_wp2
                go_ret
                exact HST.out _
            · obtain rfl : k7 = 2 := by omega
              obtain ⟨i0, hi0, hz0, hz1, hz2⟩ := info_parts int_info
              go_wp2_with (at_make; refine wpList_make_full _ rfl _ _ 22 rfl w7.heap.size 3 i0 (.int .i64 0) 1 Try.underlying22 hi0 hz0 hz1 .i64 .i64 _ _ 8 rfl rfl rfl rfl (by rw [hz2]; omega) (by unfold maxLen; omega) (Nat.le_refl _) ?_; intro w9 hown9 hgr9)
              have how9 := Own.made hown9
              have hb9 : Below w7.heap.size w7 w9 := (Below.refl _ _).grown hgr9 (Nat.le_refl _) (by intro k hk; cases hk)
              clear hown9 hgr9
              go_wp2
              go_ret
              exact RetMap.of_ rfl (how9.mono hs8) (by simp) (by omega) (R8.out.below hb9) (B8.out.trans (hb9.mono (by omega))) (Nat.le_trans hs8 hb9.size) HN0.out

end Go.Proofs.Ytanncngbmgopnaa
