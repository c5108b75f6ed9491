/- laws.eqIntSS, laws.markIntSS, laws.heldIntSS: rows of rows compared, marked, and looked at again. Conditions: the lengths. -/
import Derived.Test.YtanncngbmgopnaaSS
import Derived.Test.YtanncngbmgopnaaLater
import Derived.Test.YtanncngbmgopnaaEqIntS
import Derived.Test.YtanncngbmgopnaaMarkIntS
namespace Go.Proofs.Ytanncngbmgopnaa
open Go.RowKit
set_option linter.unusedVariables false

/-- The slice at A reads as the rows xs 0, xs 1, .. -/
def ViewSS (w : World) (A : Option Addr) (n : Nat) (xs : Nat → List Int) : Prop :=
  0 < n → ∃ g off, A = some ⟨g, off, none⟩ ∧ g < w.heap.size ∧ ∀ k, k < n → ∃ B c, w.cell? ⟨g, off + k, none⟩ = some (.slice B (xs k).length c) ∧ View w B (xs k).length (nth (xs k))

theorem ViewSS.below {w w' : World} {A : Option Addr} {n : Nat} {xs : Nat → List Int} (h : ViewSS w A n xs) (hb : Below w.heap.size w w') : ViewSS w' A n xs := fun hn => by
  obtain ⟨g, off, e, hg, hc⟩ := h hn
  refine ⟨g, off, e, Nat.lt_of_lt_of_le hg hb.size, fun k hk => ?_⟩
  obtain ⟨B, c, h1, h2⟩ := hc k hk
  exact ⟨B, c, (hb.cell (p := ⟨g, off + k, none⟩) hg).trans h1, h2.below hb⟩
theorem OwnSS.view {w : World} {base n c : Nat} {A : Option Addr} {vs : Nat → Value} {xs : Nat → List Int} (h : OwnSS w base (.slice A n c) n vs xs) : ViewSS w A n xs := fun hn => by
  obtain ⟨A', c', e, hf⟩ := h.form
  injection e with e1 _ e3
  subst e1
  subst e3
  obtain ⟨g, rfl, hg1, hg2⟩ := hf hn
  refine ⟨g, 0, rfl, hg2, fun k hk => ?_⟩
  obtain ⟨B, c2, e, _⟩ := (h.2.1 k hk).form
  have hc : w.cell? ⟨g, k, none⟩ = some (vs k) := by
    rw [World.ownsRow.cellAt h.1 k (by omega), List.getElem?_map]
    simp [hk]
  refine ⟨B, c2, by rw [Nat.zero_add, hc, e], ?_⟩
  have := h.2.1 k hk
  rw [e] at this
  exact this.view

set_option maxHeartbeats 1000000 in
theorem eqIntSS_yes (A B : Option Addr) (n c d : Nat) (xs : Nat → List Int) (w : World) (hA : ViewSS w A n xs) (hB : ViewSS w B n xs) (hn : n ≤ 1048576) (hl : ∀ i, i < n → (xs i).length ≤ 1048576) :
    Calls Try.prog 53 #[.slice A n c, .slice B n d] w (RetBool w true) := by
  have HA := Lib.hid hA
  have HB := Lib.hid hB
  have HL := Lib.hid hl
  clear hA hB hl
  go_enter Try.func53, Try.ntmps53
  go_wp2
  go_loopw [5] (fun i wr => ∃ k : Nat, k ≤ n ∧ i = .int .i64 k ∧ Below w.heap.size w wr) (fun i _ => n - (intOf i).toNat)
  case atStart => exact ⟨0, Nat.zero_le _, rfl, Below.refl _ _⟩
  case round =>
    obtain ⟨k, hk, rfl, hb⟩ := hrel
    have BB := Lib.hid hb
    by_cases hlt : k < n
    · obtain ⟨g, off, rfl, hg, hc⟩ := (HA.out.below hb) (by omega)
      obtain ⟨g2, off2, rfl, hg2, hc2⟩ := (HB.out.below hb) (by omega)
      obtain ⟨A1, c1, d1, v1⟩ := hc k hlt
      obtain ⟨A2, c2, d2, v2⟩ := hc2 k hlt
      have V1 := Lib.hid v1
      have V2 := Lib.hid v2
      have hlk : (xs k).length ≤ 1099511627776 := by have := HL.out k hlt; omega
      have l1 : ∀ q : Later wr, q.w.cell? ⟨g, off + k, none⟩ = some (.slice A1 (xs k).length c1) := fun q => q.cell d1
      have l2 : ∀ q : Later wr, q.w.cell? ⟨g2, off2 + k, none⟩ = some (.slice A2 (xs k).length c2) := fun q => q.cell d2
      clear hc hc2 v1 v2 hb
      go_wp2_with fail
      refine wp_region_later (by kernel_rfl) (by kernel_rfl) ?_
      repeat (go_big_quiet_step ((go_at_call 18; exact later_bool (eqIntS_yes _ _ _ _ _ _ _ (Later.view _ V1.out) (Later.view _ V2.out) hlk))))
      refine wpQuiet_nil ?_
      rintro _ ⟨q, rfl⟩
      have B9 := Lib.hid (below_more BB.out q.b)
      clear l1 l2
      go_wp2
      go_roundw
      case rel => exact ⟨k + 1, by omega, by go_num, B9.out⟩
      case measure => simp [intOf]; omega
    · obtain rfl : k = n := by omega
      go_wp2
      go_ret
      exact ⟨rfl, BB.out⟩

/-- How many numbers the first rows have together. -/
def preL (len : Nat → Nat) : Nat → Nat
  | 0 => 0
  | j + 1 => preL len j + len j
theorem preL_le {len : Nat → Nat} {n : Nat} (h : ∀ i, i < n → len i ≤ 7) : ∀ j, j ≤ n → preL len j ≤ 7 * j
  | 0, _ => Nat.le_refl _
  | j + 1, hj => by
    have := preL_le h j (by omega)
    have := h j (by omega)
    simp only [preL]; omega
/-- The rows marked from k on, the first j of them. -/
def markedSS (xs : Nat → List Int) (k : Int) (j i : Nat) : List Int := if i < j then lst (xs i).length (upFrom (k + preL (fun i => (xs i).length) i)) else xs i

/-- One row is written anew. -/
theorem OwnSS.mark {w w' : World} {base n j : Nat} {v : Value} {vs : Nat → Value} {xs : Nat → List Int} {ys : List Int} (h : OwnSS w base v n vs xs) (hj : j < n) (h' : Own w' base (vs j) ys) (g : w.grownBy w' (vs j).ownBlock) :
    OwnSS w' base v n vs (fun i => if i = j then ys else xs i) := by
  refine ⟨World.ownsRow.kept h.1 g (ap_types h.1 (h.2.1 j hj)), fun i hi => ?_, h.2.2⟩
  by_cases e : i = j
  · subst e; simp only [if_pos]; exact h'
  · simp only [if_neg e]; exact (h.2.1 i hi).kept g (h.2.2 i j hi hj e)
theorem markedSS_step {xs : Nat → List Int} {k : Int} {j : Nat} (i : Nat) : markedSS xs k (j + 1) i = if i = j then lst (xs j).length (upFrom (k + preL (fun i => (xs i).length) j)) else markedSS xs k j i := by
  unfold markedSS
  by_cases e : i = j
  · subst e; rw [if_pos (by omega), if_pos rfl]
  · rw [if_neg e]
    by_cases h : i < j
    · rw [if_pos (by omega), if_pos h]
    · rw [if_neg (by omega), if_neg h]

set_option maxHeartbeats 1000000 in
theorem markIntSS_any (A : Option Addr) (n c base lo hi : Nat) (k : Int) (vs : Nat → Value) (xs : Nat → List Int) (w : World) (how : OwnSS w base (.slice A n c) n vs xs) (hin : InSS (.slice A n c) n vs lo hi) (hn : n ≤ 7) (hl : ∀ i, i < n → (xs i).length ≤ 7) (k0 : 0 ≤ k) (k1 : k ≤ 1000000) :
    Calls Try.prog 54 #[.slice A n c, .int .i64 k] w fun e w' => e = .returned (.int .i64 (k + preL (fun i => (xs i).length) n)) ∧ OwnSS w' base (.slice A n c) n vs (markedSS xs k n) ∧ Out lo hi w w' := by
  have HO := Lib.hid how
  have HIN := Lib.hid hin
  have HL := Lib.hid hl
  have HP : Hid (∀ j, j ≤ n → preL (fun i => (xs i).length) j ≤ 7 * j) := Lib.hid (preL_le hl)
  clear how hin hl
  go_enter Try.func54, Try.ntmps54
  go_wp2
  go_loopw [1, 5] (fun q i wr => ∃ j : Nat, j ≤ n ∧ i = .int .i64 j ∧ q = .int .i64 (k + preL (fun i => (xs i).length) j) ∧ OwnSS wr base (.slice A n c) n vs (markedSS xs k j) ∧ Out lo hi w wr) (fun _ i _ => n - (intOf i).toNat)
  case atStart => exact ⟨0, Nat.zero_le _, rfl, by simp [preL], HO.out.congr (fun _ _ => rfl) (fun i _ => by simp [markedSS]), Out.refl _ _ _⟩
  case round =>
    obtain ⟨j, hj, rfl, rfl, ho, hout⟩ := hrel
    have OO := Lib.hid ho
    have OU := Lib.hid hout
    have hp := HP.out j hj
    obtain ⟨P, hP⟩ : ∃ P : Nat, preL (fun i => (xs i).length) j = P := ⟨_, rfl⟩
    rw [hP] at hp ⊢
    have HPP := Lib.hid hP
    clear hP
    by_cases hlt : j < n
    · obtain ⟨A', c', e, hf⟩ := ho.form
      injection e with e1 _ e3
      subst e1
      subst e3
      obtain ⟨g, rfl, hg1, hg2⟩ := hf (by omega)
      have hr := ho.2.1 j hlt
      have hr' : Own wr base (vs j) (xs j) := by simpa [markedSS] using hr
      obtain ⟨B, c2, e, _⟩ := hr'.form
      have d1 : wr.cell? ⟨g, j, none⟩ = some (.slice B (xs j).length c2) := by
        rw [World.ownsRow.cellAt ho.1 j (by omega), List.getElem?_map, ← e]
        simp [hlt]
      have hlen := HL.out j hlt
      rw [e] at hr'
      have HR := Lib.hid hr'
      have HE := Lib.hid e
      clear hr hr' e ho hf hout
      go_wp2_with fail
      refine (markIntS_any _ _ _ _ _ _ _ HR.out (by omega) (by omega) (by omega)).mono ?_
      rintro e w1 ⟨rfl, o1, g1⟩
      rw [← HE.out] at o1 g1
      have O1 := Lib.hid ((OO.out.mark hlt o1 g1).congr (us := vs) (zs := markedSS xs k (j + 1)) (fun _ _ => rfl) (fun i _ => by rw [markedSS_step, HPP.out]))
      have U1 := Lib.hid (OU.out.trans (Out.of_grown g1 (HIN.out.2 j hlt)))
      have hnext : preL (fun i => (xs i).length) (j + 1) = P + (xs j).length := by rw [← HPP.out]; rfl
      have HN := Lib.hid hnext
      clear o1 g1 d1 hnext
      go_wp2_with fail
      go_roundw
      case rel => exact ⟨j + 1, by omega, by go_num, by rw [HN.out]; go_num, O1.out, U1.out⟩
      case measure => simp [intOf]; omega
    · obtain rfl : j = n := by omega
      go_wp2
      go_ret
      exact ⟨ret_int (by rw [HPP.out]), OO.out, OU.out⟩

set_option maxHeartbeats 1000000 in
theorem heldIntSS_any (A : Option Addr) (n c : Nat) (k : Int) (xs : Nat → List Int) (w : World) (hA : ViewSS w A n (markedSS xs k n)) (hn : n ≤ 7) (hl : ∀ i, i < n → (xs i).length ≤ 7) (k0 : 0 ≤ k) (k1 : k ≤ 1000000) :
    Calls Try.prog 55 #[.slice A n c, .int .i64 k] w fun e w' => e = .returned (.int .i64 (k + preL (fun i => (xs i).length) n)) ∧ w = w' := by
  have HA := Lib.hid hA
  have HL := Lib.hid hl
  have HP : Hid (∀ j, j ≤ n → preL (fun i => (xs i).length) j ≤ 7 * j) := Lib.hid (preL_le hl)
  clear hA hl
  go_enter Try.func55, Try.ntmps55
  go_wp2
  go_loop [1, 5] (fun q i => ∃ j : Nat, j ≤ n ∧ i = .int .i64 j ∧ q = .int .i64 (k + preL (fun i => (xs i).length) j)) (fun _ i => n - (intOf i).toNat)
  case atStart => exact ⟨0, Nat.zero_le _, rfl, by simp [preL]⟩
  case round =>
    obtain ⟨j, hj, rfl, rfl⟩ := hrel
    have hp := HP.out j hj
    obtain ⟨P, hP⟩ : ∃ P : Nat, preL (fun i => (xs i).length) j = P := ⟨_, rfl⟩
    rw [hP] at hp ⊢
    have HPP := Lib.hid hP
    clear hP
    by_cases hlt : j < n
    · obtain ⟨g, off, rfl, hg, hc⟩ := HA.out (by omega)
      obtain ⟨B, c2, d1, v1⟩ := hc j hlt
      have em : markedSS xs k n j = lst (xs j).length (upFrom (k + P)) := by unfold markedSS; rw [if_pos hlt, HPP.out]
      rw [em, length_lst] at d1 v1
      have hlen := HL.out j hlt
      have V1 : Hid (View w B (xs j).length (upFrom (k + P))) := Lib.hid (v1.congr fun i hi => getD_lst _ hi)
      have hnext : preL (fun i => (xs i).length) (j + 1) = P + (xs j).length := by rw [← HPP.out]; rfl
      have HN := Lib.hid hnext
      clear hc em v1 hnext
      go_wp2_with fail
      refine (heldIntS_any _ _ _ _ _ V1.out (by omega) (by omega) (by omega)).mono ?_
      rintro e w_ ⟨rfl, rfl⟩
      go_wp2_with fail
      go_round
      case rel => exact ⟨j + 1, by omega, by go_num, by rw [HN.out]; go_num⟩
      case measure => simp [intOf]; omega
    · obtain rfl : j = n := by omega
      go_wp2
      go_ret
      exact ⟨ret_int (by rw [HPP.out]), rfl⟩

end Go.Proofs.Ytanncngbmgopnaa
