/- spec.LoopOf: the least thing of the loop to which a way leads. Conditions: a map and one of its things, or none. -/
import Derived.Test.YtanncngbmgopnaaTailSpec
import Derived.Test.YtanncngbmgopnaaSlMin
namespace Go.Proofs.Ytanncngbmgopnaa
open Go.RowKit
set_option linter.unusedVariables false

/-- The least thing of the loop. -/
def least (s : Nat → Nat) (x t l : Nat) : Int := minTo (fun j => way s x (t + j)) (l - 1)

set_option maxHeartbeats 2000000 in
theorem sLoopOf_yes (A : Option Addr) (n c x t l : Nat) (s : Nat → Nat) (w : World) (hA : View w A n (up s)) (hs : Mp n s) (hx : x < n) (hr : Rho s x t l) :
    Calls Try.prog 66 #[.slice A n c, .int .i64 x] w (RetInt w (least s x t l)) := by
  have h7 := hs.2.1
  have hle := hr.le hs hx
  have hlp := hr.pos
  have HS := Lib.hid hs
  have HR := Lib.hid hr
  clear hs hr
  go_enter Try.func66, Try.ntmps66
  go_wp2_with fail
  refine ((sWayFrom_yes _ _ _ _ _ _ _ _ hA HS.out hx HR.out).mono fun _ _ h => RetOwn.lst_ h).mono ?_
  rintro e w1 ⟨A1, c1, rfl, o1, b1⟩
  obtain ⟨g1, rfl, hg1, hg2⟩ := o1.at_ (by omega)
  go_wp2
  go_loopw [6, 7] (fun b i wr => ∃ k : Nat, k ≤ t + l ∧ i = .int .i64 k ∧ ((k ≤ t ∧ b = .int .i64 (-1)) ∨ (∃ j, k = t + j + 1 ∧ b = .int .i64 (minTo (fun j => way s x (t + j)) j))) ∧ Below w1.heap.size w1 wr) (fun _ i _ => t + l - (intOf i).toNat)
  case atStart => exact ⟨0, Nat.zero_le _, rfl, .inl ⟨Nat.zero_le _, rfl⟩, Below.refl _ _⟩
  case round =>
    obtain ⟨k, hk, rfl, hbest, hb⟩ := hrel
    have hA' := (hA.below b1).below hb
    by_cases hlt : k < t + l
    · have d1 : wr.cell? ⟨g1, k, none⟩ = some (.int .i64 (way s x k)) := (hb.cell (p := ⟨g1, k, none⟩) hg2).trans (o1.cellL k hlt)
      rcases hbest with ⟨hkt, rfl⟩ | ⟨j, hj, rfl⟩
      · by_cases hkt2 : k < t
        · go_wp2_with fail
          refine (sTailOf_yes _ _ _ _ _ _ _ _ hA' HS.out hx HR.out).mono ?_
          rintro e w2 ⟨rfl, b2⟩
          go_wp2
          go_roundw
          case rel => exact ⟨k + 1, by omega, by go_num, .inl ⟨by omega, rfl⟩, below_more hb b2⟩
          case measure => simp [intOf]; omega
        · have hkt3 : k = t := by omega
          have HK := Lib.hid hkt3
          have hge : (t : Int) ≤ (k : Int) := by omega
          clear hkt3
          go_wp2_with fail
          refine (sTailOf_yes _ _ _ _ _ _ _ _ hA' HS.out hx HR.out).mono ?_
          rintro e w2 ⟨rfl, b2⟩
          have d2 := (b2.cell (p := ⟨g1, k, none⟩) (Nat.lt_of_lt_of_le hg2 hb.size)).trans d1
          go_wp2
          go_roundw
          case rel => exact ⟨k + 1, by omega, by go_num, .inr ⟨0, by omega, by simp only [minTo]; rw [HK.out]; rfl⟩, below_more hb b2⟩
          case measure => simp [intOf]; omega
      · have HJ := Lib.hid hj
        have hge : (t : Int) ≤ (k : Int) := by omega
        have hjl : j + 1 < l := by omega
        have hm0 : 0 ≤ minTo (fun j => way s x (t + j)) j := by
          obtain ⟨i, _, e⟩ := minTo_mem (fun j => way s x (t + j)) j
          rw [e]
          simp only [way]
          omega
        have he : way s x (t + (j + 1)) = way s x k := by rw [hj, Nat.add_assoc]
        have HE := Lib.hid he
        clear hj he
        obtain ⟨b, hbv⟩ : ∃ b, b = minTo (fun j => way s x (t + j)) j := ⟨_, rfl⟩
        have HB := Lib.hid hbv
        rw [← hbv] at hm0 ⊢
        clear hbv
        have hnl : ¬ b < 0 := by omega
        by_cases hmin : way s x k < b
        · go_wp2_with fail
          refine (sTailOf_yes _ _ _ _ _ _ _ _ hA' HS.out hx HR.out).mono ?_
          rintro e w2 ⟨rfl, b2⟩
          have d2 := (b2.cell (p := ⟨g1, k, none⟩) (Nat.lt_of_lt_of_le hg2 hb.size)).trans d1
          go_wp2
          go_roundw
          case rel => exact ⟨k + 1, by omega, by go_num, .inr ⟨j + 1, by have := HJ.out; omega, by simp only [minTo]; rw [HE.out, ← HB.out]; congr 1; omega⟩, below_more hb b2⟩
          case measure => simp [intOf]; omega
        · go_wp2_with fail
          refine (sTailOf_yes _ _ _ _ _ _ _ _ hA' HS.out hx HR.out).mono ?_
          rintro e w2 ⟨rfl, b2⟩
          have d2 := (b2.cell (p := ⟨g1, k, none⟩) (Nat.lt_of_lt_of_le hg2 hb.size)).trans d1
          go_wp2
          go_roundw
          case rel => exact ⟨k + 1, by omega, by go_num, .inr ⟨j + 1, by have := HJ.out; omega, by simp only [minTo]; rw [HE.out, ← HB.out]; congr 1; omega⟩, below_more hb b2⟩
          case measure => simp [intOf]; omega
    · obtain rfl : k = t + l := by omega
      rcases hbest with ⟨hkt, rfl⟩ | ⟨j, hj, rfl⟩
      · omega
      · have hjl : j = l - 1 := by omega
        have HJ := Lib.hid hjl
        clear hjl hj
        go_wp2
        go_ret
        exact ⟨ret_int (by unfold least; rw [HJ.out]), below_more b1 hb⟩

set_option maxHeartbeats 400000 in
theorem sLoopOf_no (A : Option Addr) (n c : Nat) (x : Int) (p : Nat → Int) (w : World) (hA : View w A n p) (hn : n ≤ 1099511627776) (h : ¬ (Valid n p ∧ 0 ≤ x ∧ x < n)) :
    Calls Try.prog 66 #[.slice A n c, .int .i64 x] w (RetInt w (-1)) := by
  have HH := Lib.hid h
  clear h
  go_enter Try.func66, Try.ntmps66
  go_wp2_with fail
  refine (sWayFrom_no _ _ _ _ _ _ hA hn HH.out).mono ?_
  rintro e w1 ⟨A1, c1, rfl, o1, b1⟩
  go_wp2
  refine wp_loop_rounds 1 ?_
  rw [rounds_succ]
  go_wp2
  go_ret
  exact ⟨rfl, b1⟩

end Go.Proofs.Ytanncngbmgopnaa
