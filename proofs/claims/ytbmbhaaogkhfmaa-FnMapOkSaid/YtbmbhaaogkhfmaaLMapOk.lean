/- laws.FnMapOk answers true. Condition: the code's bounds. -/
import Derived.Test.YtbmbhaaogkhfmaaDrawMapOk
import Derived.Test.YtbmbhaaogkhfmaaAlive
import Derived.Test.YtbmbhaaogkhfmaaOkSpec
namespace Go.Proofs.Ytbmbhaaogkhfmaa
open Go.RowKit
set_option linter.unusedVariables false

theorem lit1_view (w : World) (a : Int) : View (w.alloc (.cells #[.int .i64 a] 3)) (some ⟨w.heap.size, 0, none⟩) 1 (nth [a]) := fun _ => by
  have h := Bk.new w #[.int .i64 a] 3
  refine ⟨w.heap.size, 0, rfl, h.lt, fun k hk => ?_⟩
  obtain rfl : k = 0 := by omega
  exact h.cell 0
theorem valid0 : Valid 1 (nth [0]) := ⟨by omega, by omega, fun k hk => by
  have hk0 : k = 0 := by omega
  subst hk0
  decide⟩
theorem nth_zeros (n k : Nat) : nth (List.replicate n 0) k = 0 := by
  unfold nth
  rw [List.getD_eq_getElem?_getD, List.getElem?_replicate]
  split <;> rfl
theorem validz {n : Nat} (h1 : 1 ≤ n) (h7 : n ≤ 7) : Valid n (nth (List.replicate n 0)) := ⟨h1, h7, fun k hk => by rw [nth_zeros]; omega⟩

set_option maxHeartbeats 1000000 in
theorem lawMapOk_walk (A0 : Option Addr) (n0 c0 : Nat) (p0 : Nat → Int) (w : World) (h : Bytes w A0 n0 c0 p0) :
    Calls Try.prog 11 #[.slice A0 n0 c0] w fun e w' => e = .returned (.bool true) ∧ Below w.heap.size w w' := by
  have H := Lib.hid h
  clear h
  by_cases hbig : 1048576 < n0
  · go_enter Try.func11, Try.ntmps11
    go_wp2
    go_ret
    exact ⟨rfl, Below.refl _ _⟩
  go_enter Try.func11, Try.ntmps11
  go_wp2_with fail
  refine (drawMapOk_any A0 n0 c0 p0 w H.out).mono ?_
  rintro e w1 ⟨A, k, c, zs, hk, rfl, how, hb1⟩
  have hv1 := how.viewL
  have HV := Lib.hid hv1
  have HB1 := Lib.hid hb1
  have V0 := Lib.hid (lit1_view w1 0)
  have B0 := Lib.hid ((Below.refl w1.heap.size w1).alloc (Nat.le_refl _) (.cells #[.int .i64 0] 3))
  have B00 := Lib.hid (B0.out.alloc (by simp) (.cells #[] 3))
  clear how hb1 hv1
  by_cases hv : Valid k zs
  · have HA := Lib.hid hv
    have hk1 := hv.1
    have hk7 := hv.2.1
    clear hv
    go_wp2_with fail
    refine (mapOk_yes _ _ _ _ _ HV.out HA.out).mono ?_
    rintro e w_ ⟨rfl, rfl⟩
    go_wp2_with fail
    refine (sMapOk_yes _ _ _ _ _ HV.out HA.out).mono ?_
    rintro e w_ ⟨rfl, rfl⟩
    go_wp2_with fail
    refine (mapOk_yes _ _ _ _ _ V0.out valid0).mono ?_
    rintro e w_ ⟨rfl, rfl⟩
    go_wp2_with fail
    refine (mapOk_no _ _ _ (nth []) _ (fun h => absurd h (by omega)) (fun h => absurd h.1 (by omega)) (by omega)).mono ?_
    rintro e w_ ⟨rfl, rfl⟩
    obtain ⟨i0, hi0, hz0, hz1, hz2⟩ := info_parts int_info
    go_wp2_with fail
    obtain ⟨w4, hrun, r1, r2⟩ := run_make_full (P := Try.prog) ((w1.alloc (.cells #[.int .i64 0] 3)).alloc (.cells #[] 3)) w1.heap.size 23 3 i0 (.int .i64 0) 1 Try.underlying23 hi0 hz0 hz1 .i64 .i64 k (by rw [hz2]; omega) (by unfold maxLen; omega) (by simp; omega)
    simp only [World.size_alloc] at r1 hrun
    have how := Own.made r1
    have hb4 := B00.out.grown r2 (by simp; omega) (by intro k hk; cases hk)
    have VM := Lib.hid how.view
    have HB4 := Lib.hid (below_more HB1.out hb4)
    have HVZ := Lib.hid (validz hk1 hk7)
    rw [hrun]
    simp only [Result.andThen, Oper.upon_value]
    clear r1 r2 how hb4 hrun
    go_wp2_with fail
    refine (mapOk_yes _ _ _ _ _ VM.out HVZ.out).mono ?_
    rintro e w_ ⟨rfl, rfl⟩
    go_wp2_with fail
    refine (alive_any _).mono ?_
    rintro e w2 ⟨rfl, hb2⟩
    have HB2 := Lib.hid hb2
    clear hb2
    go_wp2
    go_ret
    exact ⟨rfl, below_more HB4.out HB2.out⟩
  · have HA := Lib.hid hv
    clear hv
    go_wp2_with fail
    refine (mapOk_no _ _ _ _ _ HV.out HA.out (by omega)).mono ?_
    rintro e w_ ⟨rfl, rfl⟩
    go_wp2_with fail
    refine (sMapOk_no _ _ _ _ _ HV.out HA.out (by omega)).mono ?_
    rintro e w_ ⟨rfl, rfl⟩
    go_wp2_with fail
    refine (mapOk_yes _ _ _ _ _ V0.out valid0).mono ?_
    rintro e w_ ⟨rfl, rfl⟩
    go_wp2_with fail
    refine (mapOk_no _ _ _ (nth []) _ (fun h => absurd h (by omega)) (fun h => absurd h.1 (by omega)) (by omega)).mono ?_
    rintro e w_ ⟨rfl, rfl⟩
    go_wp2_with fail
    refine (alive_any _).mono ?_
    rintro e w2 ⟨rfl, hb2⟩
    have HB2 := Lib.hid hb2
    clear hb2
    go_wp2
    go_ret
    exact ⟨rfl, below_more (below_more HB1.out B00.out) HB2.out⟩

end Go.Proofs.Ytbmbhaaogkhfmaa
