/- impl.selfMap.image and impl.ImageOf: the things to which something is led. Conditions: a map, or none. -/
import Derived.Test.YtdhgnbfkcpaohaaSeqC
import Derived.Test.YtdhgnbfkcpaohaaImageD
import Derived.Test.YtdhgnbfkcpaohaaContainsM
import Derived.Test.YtdhgnbfkcpaohaaOkImpl
namespace Go.Proofs.Ytdhgnbfkcpaohaa
open Go.RowKit Go.Shelf
set_option linter.unusedVariables false
attribute [local go_sem] Oper.semAt_some

set_option maxRecDepth 100000 in
set_option maxHeartbeats 2000000 in
theorem image1_in (l B1 n₀ b off n c : Nat) (s : Nat → Nat) (hn : n ≤ 7) (hb : b < n₀) (hB1 : B1 < n₀) (J Jx : List Int → World → Prop)
    (hY : ∀ pre x W, J pre W → pre.length < (imgTo s n n).length → YieldAt Fence.wide 3 Try.prog l #[.int .i64 x] W fun e W' =>
      (e = .returned (.bool true) ∧ J (pre ++ [x]) W' ∧ Below n₀ W W') ∨ (e = .returned (.bool false) ∧ Jx (pre ++ [x]) W'))
    (W : World) (hbs : b < W.heap.size) (hc1 : W.cell? ⟨B1, 0, none⟩ = some (.slice (some ⟨b, off, none⟩) n c))
    (hc : ∀ j, j < n → W.cell? ⟨b, off + j, none⟩ = some (.int .i64 (s j : Int))) (h0 : J [] W) :
    CallsIn Fence.wide 4 Try.prog 99 #[.func (.yield l) #[] #[], .pointer (some ⟨B1, 0, none⟩)] W fun e W' => (∃ v, e = .returned v) ∧
      ((∃ ys, ys = imgTo s n n ∧ J ys W') ∨ (∃ pre, True ∧ Jx pre W')) := by
  refine callsIn_of_wp Try.func99 rfl trivial ?_ rfl
  simp only [Try.ntmps99, List.size_toArray, List.length_cons, List.length_nil, Nat.reduceAdd, Nat.reduceSub, Array.replicate_succ, Array.replicate_zero, List.push_toArray, List.append_toArray, List.nil_append, List.cons_append]
  gi_wp2
  gi_loopw [6] (fun i wr => ∃ k : Nat, k ≤ n ∧ i = .int .i64 k ∧ J (imgTo s n k) wr ∧ Below n₀ W wr) (fun i _ => n - (intOf i).toNat)
  case atStart => exact ⟨0, Nat.zero_le _, rfl, h0, Below.refl _ _⟩
  case round =>
    obtain ⟨k, hk, rfl, hJs, hnx⟩ := hrel
    by_cases hlt : k < n
    · have d1 : wr.cell? ⟨B1, 0, none⟩ = some (.slice (some ⟨b, off, none⟩) n c) := (hnx.cell (p := ⟨B1, 0, none⟩) hB1).trans hc1
      have d3 : View wr (some ⟨b, off, none⟩) n (up s) := fun _ => ⟨b, off, rfl, Nat.lt_of_lt_of_le hbs hnx.size, fun j hj => (hnx.cell (p := ⟨b, off + j, none⟩) hb).trans (hc j hj)⟩
      have D3 := Lib.hid d3
      clear d3
      by_cases hs : 0 < (fromTo s k n).length
      · obtain ⟨j, hj, hjk⟩ := led_iff.1 hs
        obtain ⟨fn, tmps, assign, body, hy, hR⟩ := hY (imgTo s n k) k wr hJs (by
          have h2 : (imgTo s n (k + 1)).length ≤ (imgTo s n n).length := imgTo_mono s n (by omega)
          rw [imgTo_hit hj hjk] at h2
          simp at h2
          omega)
        have C := callsIn_wide (n := 3).2 (containsM_yes (some ⟨b, off, none⟩) n c j (up s) k wr D3.out (by omega) hj (by simp [up, hjk]))
        have HH := Lib.hid (imgTo_hit hj hjk)
        have HC := Lib.hid C
        clear hs hc hjk C
        gi_wp2_with (refine ⟨trivial, ?_⟩; gi_at_call 100; refine HC.out.mono ?_; rintro e w_ ⟨rfl, rfl⟩)
        refine hR.mono ?_
        rintro e W3 (⟨rfl, hJ3, hk3⟩ | ⟨rfl, hJx3⟩)
        · gi_wp2
          go_roundw
          case rel => exact ⟨k + 1, by omega, by simp, by rw [HH.out]; exact hJ3, hnx.trans hk3⟩
          case measure => simp [intOf]; omega
        · gi_wp2
          refine bodyPost_ret (results_none rfl _ _ _) rfl ?_
          exact ⟨⟨_, rfl⟩, .inr ⟨_, trivial, hJx3⟩⟩
      · have hno : ∀ j, j < n → s j ≠ k := fun j hj e => hs (led_iff.2 ⟨j, hj, e⟩)
        have C := callsIn_wide (n := 3).2 (containsM_no (some ⟨b, off, none⟩) n c (up s) k wr D3.out (by omega) (fun j hj e => hno j hj (Int.ofNat_inj.1 e)))
        have HH := Lib.hid (imgTo_miss hno)
        have HC := Lib.hid C
        clear hs hc hno C
        gi_wp2_with (refine ⟨trivial, ?_⟩; gi_at_call 100; refine HC.out.mono ?_; rintro e w_ ⟨rfl, rfl⟩)
        refine ⟨fun _ h => (by cases h), ?_⟩
        gi_wp2
        go_roundw
        case rel => exact ⟨k + 1, by omega, by simp, by rw [HH.out]; exact hJs, hnx⟩
        case measure => simp [intOf]; omega
    · obtain rfl : k = n := by omega
      gi_wp2
      go_end0
      exact ⟨⟨_, rfl⟩, .inl ⟨_, rfl, hJs⟩⟩

theorem image_stops (B1 n₀ b off n c : Nat) (s : Nat → Nat) (W0 : World) (hn : n ≤ 7) (hb : b < n₀) (hB1 : B1 < n₀) (hsz : n₀ ≤ W0.heap.size)
    (hc1 : W0.cell? ⟨B1, 0, none⟩ = some (.slice (some ⟨b, off, none⟩) n c)) (hc : ∀ j, j < n → W0.cell? ⟨b, off + j, none⟩ = some (.int .i64 (s j : Int))) :
    SeqStopsK Fence.wide 4 Try.prog 99 #[.pointer (some ⟨B1, 0, none⟩)] (fun x : Int => #[Value.int .i64 x]) (Below n₀) (fun ys => ys = imgTo s n n) (fun _ => True) (imgTo s n n).length W0 := fun l J Jx W hW _ _ hY h0 =>
  image1_in l B1 n₀ b off n c s hn hb hB1 J Jx hY W (by have := hW.size; omega) ((hW.cell (p := ⟨B1, 0, none⟩) (by show B1 < _; omega)).trans hc1) (fun j hj => (hW.cell (p := ⟨b, off + j, none⟩) (by show b < _; omega)).trans (hc j hj)) h0

set_option maxHeartbeats 400000 in
theorem image_makes (A : Option Addr) (n c : Nat) (w : World) :
    Calls Try.prog 79 #[.slice A n c] w fun e w' => e = .returned (.func (.func 99) #[] #[.pointer (some ⟨w.heap.size, 0, none⟩)]) ∧ w.alloc (.cells #[.slice A n c] 61) = w' := by
  go_enter Try.func79, Try.ntmps79
  go_wp2
  go_ret
  exact ⟨rfl, rfl⟩

set_option maxHeartbeats 1000000 in
theorem imageOf_yes (A : Option Addr) (n c : Nat) (s : Nat → Nat) (w : World) (hA : View w A n (up s)) (hs : Mp n s) :
    Calls Try.prog 34 #[.slice A n c] w (RetOwn w (imgTo s n n)) := by
  have h7 := hs.2.1
  have h1 := hs.1
  have HS := Lib.hid hs
  obtain ⟨b, off, rfl, hb, hc⟩ := hA (by omega)
  have hb1 := (Below.refl w.heap.size w).alloc (Nat.le_refl _) (.cells #[.slice (some ⟨b, off, none⟩) n c] 61)
  have bx1 := Boxed.new w 61 (.slice (some ⟨b, off, none⟩) n c)
  have C := collect_any 99 #[.pointer (some ⟨w.heap.size, 0, none⟩)] (enters_of Try.func99 (by kernel_rfl) rfl) (imgTo s n n) (by have := length_imgTo s n n; omega)
    (w.alloc (.cells #[.slice (some ⟨b, off, none⟩) n c] 61))
    (fun W hW => image_stops w.heap.size _ b off n c s W (by omega) (by simp; omega) (by simp) hW.size
      ((hW.cell (p := ⟨w.heap.size, 0, none⟩) (by simp)).trans bx1.cell)
      (fun j hj => (hW.cell (p := ⟨b, off + j, none⟩) (by show b < _; simp; omega)).trans ((hb1.cell (p := ⟨b, off + j, none⟩) hb).trans (hc j hj))))
  have HC := Lib.hid C
  have HB1 := Lib.hid hb1
  clear hc C bx1 hb1
  go_enter Try.func34, Try.ntmps34
  go_wp2_with fail
  refine (mapOk_yes _ _ _ _ _ hA HS.out.valid).mono ?_
  rintro e w_ ⟨rfl, rfl⟩
  go_wp2_with fail
  refine (image_makes _ _ _ _).mono ?_
  rintro e w_ ⟨rfl, rfl⟩
  go_wp2_with fail
  refine HC.out.mono ?_
  rintro e w3 ⟨A3, c3, rfl, o3, b3⟩
  have O3 := Lib.hid (o3.mono (base' := w.heap.size) (by simp))
  have B3 := Lib.hid (below_more HB1.out b3)
  clear o3 b3
  go_wp2
  go_ret
  exact RetOwn.of_ rfl O3.out B3.out

set_option maxHeartbeats 1000000 in
theorem imageOf_no (A : Option Addr) (n c : Nat) (p : Nat → Int) (w : World) (hA : View w A n p) (hn : n ≤ 1099511627776) (h : ¬ Valid n p) :
    Calls Try.prog 34 #[.slice A n c] w (RetOwn w []) := by
  have HV := Lib.hid h
  clear h
  go_enter Try.func34, Try.ntmps34
  go_wp2_with fail
  refine (mapOk_no _ _ _ _ _ hA HV.out hn).mono ?_
  rintro e w_ ⟨rfl, rfl⟩
  go_wp2
  go_ret
  exact RetOwn.of_ rfl (Own.nil _ _) (Below.refl _ _)

end Go.Proofs.Ytdhgnbfkcpaohaa
