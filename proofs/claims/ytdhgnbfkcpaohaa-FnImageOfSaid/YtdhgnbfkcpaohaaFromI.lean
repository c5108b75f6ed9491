/- impl.selfMap.from and impl.FromOf: the things that are led to one. Conditions: a map and one of its things, or none. -/
import Derived.Test.YtdhgnbfkcpaohaaSeqC
import Derived.Test.YtdhgnbfkcpaohaaFib
import Derived.Test.YtdhgnbfkcpaohaaThingOk
import Derived.Test.YtdhgnbfkcpaohaaOkImpl
namespace Go.Proofs.Ytdhgnbfkcpaohaa
open Go.RowKit Go.Shelf
set_option linter.unusedVariables false
attribute [local go_sem] Oper.semAt_some

theorem fromTo_mono (s : Nat → Nat) (v : Int) {k m : Nat} (h : k ≤ m) : (fromTo s v k).length ≤ (fromTo s v m).length := by
  induction m with
  | zero => obtain rfl : k = 0 := by omega
            exact Nat.le_refl _
  | succ m ih =>
    rcases Nat.lt_or_ge k (m + 1) with h1 | h1
    · have h2 := ih (by omega)
      by_cases hs : (s m : Int) = v
      · rw [fromTo_hit hs]; simp; omega
      · rw [fromTo_miss hs]; exact h2
    · obtain rfl : k = m + 1 := by omega
      exact Nat.le_refl _

set_option maxRecDepth 100000 in
set_option maxHeartbeats 2000000 in
theorem from1_in (l B1 B2 n₀ b off n c : Nat) (s : Nat → Nat) (v : Int) (hn : n ≤ 7) (hb : b < n₀) (hB1 : B1 < n₀) (hB2 : B2 < n₀) (J Jx : List Int → World → Prop)
    (hY : ∀ pre x W, J pre W → pre.length < (fromTo s v n).length → YieldAt Fence.wide 3 Try.prog l #[.int .i64 x] W fun e W' =>
      (e = .returned (.bool true) ∧ J (pre ++ [x]) W' ∧ Below n₀ W W') ∨ (e = .returned (.bool false) ∧ Jx (pre ++ [x]) W'))
    (W : World) (hc1 : W.cell? ⟨B1, 0, none⟩ = some (.slice (some ⟨b, off, none⟩) n c)) (hc2 : W.cell? ⟨B2, 0, none⟩ = some (.int .i64 v))
    (hc : ∀ j, j < n → W.cell? ⟨b, off + j, none⟩ = some (.int .i64 (s j : Int))) (h0 : J [] W) :
    CallsIn Fence.wide 4 Try.prog 101 #[.func (.yield l) #[] #[], .pointer (some ⟨B1, 0, none⟩), .pointer (some ⟨B2, 0, none⟩)] W fun e W' => (∃ v, e = .returned v) ∧
      ((∃ ys, ys = fromTo s v n ∧ J ys W') ∨ (∃ pre, True ∧ Jx pre W')) := by
  refine callsIn_of_wp Try.func101 rfl trivial ?_ rfl
  simp only [Try.ntmps101, List.size_toArray, List.length_cons, List.length_nil, Nat.reduceAdd, Nat.reduceSub, Array.replicate_succ, Array.replicate_zero, List.push_toArray, List.append_toArray, List.nil_append, List.cons_append]
  gi_wp2
  gi_loopw [8] (fun i wr => ∃ k : Nat, k ≤ n ∧ i = .int .i64 k ∧ J (fromTo s v k) wr ∧ Below n₀ W wr) (fun i _ => n - (intOf i).toNat)
  case atStart => exact ⟨0, Nat.zero_le _, rfl, h0, Below.refl _ _⟩
  case round =>
    obtain ⟨k, hk, rfl, hJs, hnx⟩ := hrel
    by_cases hlt : k < n
    · have d1 : wr.cell? ⟨B1, 0, none⟩ = some (.slice (some ⟨b, off, none⟩) n c) := (hnx.cell (p := ⟨B1, 0, none⟩) hB1).trans hc1
      have d2 : wr.cell? ⟨B2, 0, none⟩ = some (.int .i64 v) := (hnx.cell (p := ⟨B2, 0, none⟩) hB2).trans hc2
      have d3 : wr.cell? ⟨b, off + k, none⟩ = some (.int .i64 (s k : Int)) := (hnx.cell (p := ⟨b, off + k, none⟩) hb).trans (hc k hlt)
      by_cases hs : (s k : Int) = v
      · have he : ((s k : Int) == v) = true := by simp [hs]
        obtain ⟨fn, tmps, assign, body, hy, hR⟩ := hY (fromTo s v k) k wr hJs (by
          have h2 : (fromTo s v (k + 1)).length ≤ (fromTo s v n).length := fromTo_mono s v (by omega)
          rw [fromTo_hit hs] at h2
          simp at h2
          omega)
        have HS := Lib.hid hs
        clear hs hc
        gi_wp2
        refine hR.mono ?_
        rintro e W3 (⟨rfl, hJ3, hk3⟩ | ⟨rfl, hJx3⟩)
        · gi_wp2
          go_roundw
          case rel => exact ⟨k + 1, by omega, by simp, by rw [fromTo_hit HS.out]; exact hJ3, hnx.trans hk3⟩
          case measure => simp [intOf]; omega
        · gi_wp2
          refine bodyPost_ret (results_none rfl _ _ _) rfl ?_
          exact ⟨⟨_, rfl⟩, .inr ⟨_, trivial, hJx3⟩⟩
      · have he : ((s k : Int) == v) = false := by simp [hs]
        have HS := Lib.hid hs
        clear hs hc
        gi_wp2
        refine ⟨fun _ h => (by cases h), ?_⟩
        gi_wp2
        go_roundw
        case rel => exact ⟨k + 1, by omega, by simp, by rw [fromTo_miss HS.out]; exact hJs, hnx⟩
        case measure => simp [intOf]; omega
    · obtain rfl : k = n := by omega
      gi_wp2
      go_end0
      exact ⟨⟨_, rfl⟩, .inl ⟨_, rfl, hJs⟩⟩

theorem from_stops (B1 B2 n₀ b off n c : Nat) (s : Nat → Nat) (v : Int) (W0 : World) (hn : n ≤ 7) (hb : b < n₀) (hB1 : B1 < n₀) (hB2 : B2 < n₀) (hsz : n₀ ≤ W0.heap.size)
    (hc1 : W0.cell? ⟨B1, 0, none⟩ = some (.slice (some ⟨b, off, none⟩) n c)) (hc2 : W0.cell? ⟨B2, 0, none⟩ = some (.int .i64 v)) (hc : ∀ j, j < n → W0.cell? ⟨b, off + j, none⟩ = some (.int .i64 (s j : Int))) :
    SeqStopsK Fence.wide 4 Try.prog 101 #[.pointer (some ⟨B1, 0, none⟩), .pointer (some ⟨B2, 0, none⟩)] (fun x : Int => #[Value.int .i64 x]) (Below n₀) (fun ys => ys = fromTo s v n) (fun _ => True) (fromTo s v n).length W0 := fun l J Jx W hW _ _ hY h0 =>
  from1_in l B1 B2 n₀ b off n c s v hn hb hB1 hB2 J Jx hY W ((hW.cell (p := ⟨B1, 0, none⟩) (by show B1 < _; omega)).trans hc1) ((hW.cell (p := ⟨B2, 0, none⟩) (by show B2 < _; omega)).trans hc2) (fun j hj => (hW.cell (p := ⟨b, off + j, none⟩) (by show b < _; omega)).trans (hc j hj)) h0

set_option maxHeartbeats 400000 in
theorem has_yes (A : Option Addr) (n c x : Nat) (w : World) (hx : x < n) :
    Calls Try.prog 81 #[.slice A n c, .int .i64 x] w fun e w' => e = .returned (.bool true) ∧ w = w' := by
  go_enter Try.func81, Try.ntmps81
  go_wp2
  go_ret
  exact ⟨rfl, rfl⟩
set_option maxHeartbeats 400000 in
theorem has_no (A : Option Addr) (n c : Nat) (x : Int) (w : World) (hx : ¬ (0 ≤ x ∧ x < n)) :
    Calls Try.prog 81 #[.slice A n c, .int .i64 x] w fun e w' => e = .returned (.bool false) ∧ w = w' := by
  rcases Int.lt_or_le x 0 with h | h
  · go_enter Try.func81, Try.ntmps81
    go_wp2
    go_ret
    exact ⟨rfl, rfl⟩
  · have h2 : (n : Int) ≤ x := by omega
    clear hx
    go_enter Try.func81, Try.ntmps81
    go_wp2
    go_ret
    exact ⟨ret_bool (by simp; omega), rfl⟩
set_option maxHeartbeats 400000 in
theorem from_makes (A : Option Addr) (n c : Nat) (x : Int) (w : World) :
    Calls Try.prog 82 #[.slice A n c, .int .i64 x] w fun e w' => e = .returned (.func (.func 101) #[] #[.pointer (some ⟨w.heap.size, 0, none⟩), .pointer (some ⟨w.heap.size + 1, 0, none⟩)]) ∧
      (w.alloc (.cells #[.slice A n c] 61)).alloc (.cells #[.int .i64 x] 3) = w' := by
  go_enter Try.func82, Try.ntmps82
  go_wp2
  go_ret
  exact ⟨rfl, rfl⟩

set_option maxHeartbeats 1000000 in
theorem fromOf_yes (A : Option Addr) (n c x : Nat) (s : Nat → Nat) (w : World) (hA : View w A n (up s)) (hs : Mp n s) (hx : x < n) :
    Calls Try.prog 39 #[.slice A n c, .int .i64 x] w (RetOwn w (fromTo s x n)) := by
  have h7 := hs.2.1
  have HS := Lib.hid hs
  obtain ⟨b, off, rfl, hb, hc⟩ := hA (by omega)
  have hb1 := (Below.refl w.heap.size w).alloc (Nat.le_refl _) (.cells #[.slice (some ⟨b, off, none⟩) n c] 61)
  have hb2 := hb1.alloc (by simp) (.cells #[.int .i64 x] 3)
  have bx1 := (Boxed.new w 61 (.slice (some ⟨b, off, none⟩) n c)).alloc (.cells #[.int .i64 x] 3)
  have bx2 := Boxed.new (w.alloc (.cells #[.slice (some ⟨b, off, none⟩) n c] 61)) 3 (.int .i64 x)
  rw [World.size_alloc] at bx2
  have C := collect_any 101 #[.pointer (some ⟨w.heap.size, 0, none⟩), .pointer (some ⟨w.heap.size + 1, 0, none⟩)] (enters_of Try.func101 (by kernel_rfl) rfl) (fromTo s x n) (by have := length_fromTo s x n; omega)
    ((w.alloc (.cells #[.slice (some ⟨b, off, none⟩) n c] 61)).alloc (.cells #[.int .i64 x] 3))
    (fun W hW => from_stops w.heap.size (w.heap.size + 1) _ b off n c s x W (by omega) (by simp; omega) (by simp; omega) (by simp) hW.size
      ((hW.cell (p := ⟨w.heap.size, 0, none⟩) (by simp; omega)).trans bx1.cell) ((hW.cell (p := ⟨w.heap.size + 1, 0, none⟩) (by simp)).trans bx2.cell)
      (fun j hj => (hW.cell (p := ⟨b, off + j, none⟩) (by show b < _; simp; omega)).trans ((hb2.cell (p := ⟨b, off + j, none⟩) hb).trans (hc j hj))))
  have HC := Lib.hid C
  have HB2 := Lib.hid hb2
  clear hc C bx1 bx2 hb1 hb2
  go_enter Try.func39, Try.ntmps39
  go_wp2_with fail
  refine (mapOk_yes _ _ _ _ _ hA HS.out.valid).mono ?_
  rintro e w_ ⟨rfl, rfl⟩
  go_wp2_with fail
  refine (has_yes _ _ _ _ _ hx).mono ?_
  rintro e w_ ⟨rfl, rfl⟩
  go_wp2_with fail
  refine (from_makes _ _ _ _ _).mono ?_
  rintro e w_ ⟨rfl, rfl⟩
  go_wp2_with fail
  refine HC.out.mono ?_
  rintro e w3 ⟨A3, c3, rfl, o3, b3⟩
  have O3 := Lib.hid (o3.mono (base' := w.heap.size) (by simp; omega))
  have B3 := Lib.hid (below_more HB2.out b3)
  clear o3 b3
  go_wp2
  go_ret
  exact RetOwn.of_ rfl O3.out B3.out

set_option maxHeartbeats 1000000 in
theorem fromOf_no (A : Option Addr) (n c : Nat) (x : Int) (p : Nat → Int) (w : World) (hA : View w A n p) (hn : n ≤ 1099511627776) (h : ¬ (Valid n p ∧ 0 ≤ x ∧ x < n)) :
    Calls Try.prog 39 #[.slice A n c, .int .i64 x] w (RetOwn w []) := by
  by_cases hv : Valid n p
  · have hx : ¬ (0 ≤ x ∧ x < n) := fun e => h ⟨hv, e⟩
    have HX := Lib.hid hx
    have HV := Lib.hid hv
    clear h hx hv
    go_enter Try.func39, Try.ntmps39
    go_wp2_with fail
    refine (mapOk_yes _ _ _ _ _ hA HV.out).mono ?_
    rintro e w_ ⟨rfl, rfl⟩
    go_wp2_with fail
    refine (has_no _ _ _ _ _ HX.out).mono ?_
    rintro e w_ ⟨rfl, rfl⟩
    go_wp2
    go_ret
    exact RetOwn.of_ rfl (Own.nil _ _) (Below.refl _ _)
  · have HV := Lib.hid hv
    clear h hv
    go_enter Try.func39, Try.ntmps39
    go_wp2_with fail
    refine (mapOk_no _ _ _ _ _ hA HV.out hn).mono ?_
    rintro e w_ ⟨rfl, rfl⟩
    go_wp2
    go_ret
    exact RetOwn.of_ rfl (Own.nil _ _) (Below.refl _ _)

end Go.Proofs.Ytdhgnbfkcpaohaa
