/- laws.ascend answers true of an ascending row. Condition: the length's bound. -/
import Derived.Test.YtdhgnbfkcpaohaaImageD
import Derived.Deep.QuietTactic
import Derived.BigQuiet
import Derived.IntWalk
namespace Go.Proofs.Ytdhgnbfkcpaohaa
open Go.RowKit
set_option linter.unusedVariables false

/-- The numbers ascend. -/
def Asc (xs : List Int) : Prop := ∀ i, i + 1 < xs.length → nth xs i < nth xs (i + 1)
theorem nth_append_l {xs ys : List Int} {i : Nat} (h : i < xs.length) : nth (xs ++ ys) i = nth xs i := by
  unfold nth
  rw [List.getD_eq_getElem?_getD, List.getElem?_append_left h, ← List.getD_eq_getElem?_getD]
theorem nth_append_e {xs : List Int} {z : Int} : nth (xs ++ [z]) xs.length = z := by
  unfold nth
  rw [List.getD_eq_getElem?_getD, List.getElem?_append_right (Nat.le_refl _)]
  simp
theorem nth_mem {xs : List Int} {i : Nat} (h : i < xs.length) : nth xs i ∈ xs := by
  unfold nth
  rw [List.getD_eq_getElem?_getD, List.getElem?_eq_getElem h]
  exact List.getElem_mem _
theorem Asc.snoc {xs : List Int} {z : Int} (h : Asc xs) (hz : ∀ y ∈ xs, y < z) : Asc (xs ++ [z]) := by
  intro i hi
  simp only [List.length_append, List.length_singleton] at hi
  rcases Nat.lt_or_ge (i + 1) xs.length with h1 | h1
  · rw [nth_append_l (by omega), nth_append_l h1]; exact h i h1
  · have e : i + 1 = xs.length := by omega
    rw [nth_append_l (by omega), e, nth_append_e]
    exact hz _ (nth_mem (by omega))
theorem asc_fromTo (s : Nat → Nat) (v : Int) (k : Nat) : Asc (fromTo s v k) := by
  induction k with
  | zero => intro i hi; simp [fromTo] at hi
  | succ k ih =>
    by_cases h : (s k : Int) = v
    · rw [fromTo_hit h]
      refine ih.snoc fun y hy => ?_
      obtain ⟨j, hj, rfl, _⟩ := (mem_fromTo s v y k).1 hy
      omega
    · rw [fromTo_miss h]; exact ih
theorem asc_imgTo (s : Nat → Nat) (n k : Nat) : Asc (imgTo s n k) := by
  induction k with
  | zero => intro i hi; simp [imgTo] at hi
  | succ k ih =>
    by_cases h : 0 < (fromTo s k n).length
    · rw [imgTo, if_pos h]
      refine ih.snoc fun y hy => ?_
      obtain ⟨v, hv, rfl, _⟩ := (mem_imgTo s n y k).1 hy
      omega
    · rw [imgTo, if_neg h]; exact ih

set_option maxHeartbeats 1000000 in
theorem ascend_yes (A : Option Addr) (n c : Nat) (p : Nat → Int) (w : World) (hA : View w A n p) (hn : n ≤ 1099511627776) (h : ∀ i, i + 1 < n → p i < p (i + 1)) :
    Calls Try.prog 40 #[.slice A n c] w (RetBool w true) := by
  have HA := Lib.hid hA
  have HH := Lib.hid h
  clear hA h
  go_enter Try.func40, Try.ntmps40
  go_wp2
  go_loopw [3] (fun i wr => ∃ k : Nat, i = .int .i64 (k + 1 : Int) ∧ k ≤ n ∧ Below w.heap.size w wr) (fun i _ => n + 1 - (intOf i).toNat)
  case atStart => exact ⟨0, rfl, Nat.zero_le _, Below.refl _ _⟩
  case round =>
    obtain ⟨k, rfl, hk, hb⟩ := hrel
    by_cases hlt : k + 1 < n
    · obtain ⟨g, off, rfl, hg, hc⟩ := (HA.out.below hb) (by omega)
      have c1 := hc k (by omega)
      have c2 : wr.cell? ⟨g, off + (k + 1), none⟩ = some (.int .i64 (p (k + 1))) := hc (k + 1) hlt
      have ht : ¬ p (k + 1) ≤ p k := by have := HH.out k hlt; omega
      have HB := Lib.hid hb
      have i1 : (k : Int) + 1 < n := by omega
      have i2 : (0 : Int) ≤ (k : Int) + 1 := by omega
      have i6 : IntKind.i64.wrap ((k : Int) + 1 - 1) = (k : Int) := by rw [IntWalk.i64_in _ (by omega)]; omega
      have i4 : ((k : Int) + 1).toNat = k + 1 := by omega
      clear hc hb
      go_wp2_with fail
      go_quiet (fail)
      have B9 := Lib.hid (below_drewN HB.out nq)
      clear i1 i2 i4 i6 c1 c2
      go_wp2
      go_roundw
      case rel => exact ⟨k + 1, by go_num, by omega, B9.out⟩
      case measure => simp [intOf]; omega
    · go_wp2
      go_ret
      exact ⟨rfl, hb⟩

end Go.Proofs.Ytdhgnbfkcpaohaa
