/- The draws' reader: pick and odd. Condition: how often was drawn. -/
import Derived.Test.YtanncngbmgopnaaRd
import Derived.Deep.QuietTactic
import Derived.BigRegion
import Derived.BigQuiet
namespace Go.Proofs.Ytanncngbmgopnaa
open Go.RowKit
set_option linter.unusedVariables false

set_option maxHeartbeats 4000000 in
theorem pick_any (b p n : Nat) (w : World) (hr : Rd w b p) (hn : 1 ≤ n) (hm : n ≤ 1000000) (hp : p ≤ 1000000) :
    Calls Try.prog 73 #[.pointer (some ⟨b, 0, none⟩), .int .i64 n] w fun e w' => ∃ k : Nat, k < n ∧ e = .returned (.int .i64 k) ∧ Rd w' b (p + 1) ∧ w.grownBy w' (some b) := by
  obtain ⟨A, len, c, q, bk, hl, hq⟩ := hr
  have c0 : w.cell? ⟨b, 0, none⟩ = some (.slice A len c) := bk.cell 0
  have c1 : w.cell? ⟨b, 1, none⟩ = some (.int .i64 p) := bk.cell 1
  have f1 := bk.free 1
  have rd : Rd (w.setCell ⟨b, 1, none⟩ (.int .i64 (p + 1 : Int))) b (p + 1) := ⟨A, len, c, q, bk.set_ 1 _, hl, fun hn => by
    obtain ⟨g, off, e, hlt, hc⟩ := hq hn
    exact ⟨g, off, e, hlt, fun k hk => ⟨(World.cell?_of_block (Below.heap_setCell w ⟨b, 1, none⟩ _ g (by show g ≠ b; omega))).trans (hc k hk).1, (hc k hk).2⟩⟩⟩
  have gr : w.grownBy (w.setCell ⟨b, 1, none⟩ (.int .i64 (p + 1 : Int))) (some b) :=
    ⟨rfl, rfl, rfl, by rw [World.size_setCell]; exact Nat.le_refl _, fun k hk hne => Below.heap_setCell w ⟨b, 1, none⟩ _ k (fun e => hne (by rw [e]))⟩
  have HN := Lib.hid hn
  clear bk
  rcases Nat.eq_zero_or_pos len with rfl | hpos
  · go_enter Try.func73, Try.ntmps73
    go_wp2
    go_ret
    exact ⟨0, by omega, rfl, rd, gr⟩
  obtain ⟨g, off, rfl, hg, hc⟩ := hq hpos
  have g1 : ((len : Int) == 0) = false := by simp; omega
  have g2 : ((n : Int) < 1) = False := by simp; omega
  have RD := Lib.hid rd
  have GR := Lib.hid gr
  clear rd gr hq
  by_cases hpl : p < len
  · have cc := (hc p hpl).1
    have hv := (hc p hpl).2
    obtain ⟨v, hv2⟩ : ∃ v : Nat, q p = v := ⟨(q p).toNat, by omega⟩
    rw [hv2] at cc
    have em : ((v : Int)) % n = ((v % n : Nat) : Int) := (Int.natCast_emod v n).symm
    clear hc
    go_enter Try.func73, Try.ntmps73
    go_wp2
    go_ret
    exact ⟨v % n, Nat.mod_lt _ (by omega), ret_int em, RD.out, GR.out⟩
  · obtain ⟨i1, e1, l1⟩ : ∃ i1 : Nat, (p : Int).tmod len = i1 ∧ i1 < len := ⟨p % len, by rw [Int.tmod_eq_emod_of_nonneg (by omega)]; exact (Int.natCast_emod p len).symm, Nat.mod_lt _ hpos⟩
    obtain ⟨i2, e2, l2⟩ : ∃ i2 : Nat, ((p : Int) * 7 + 3).tmod len = i2 ∧ i2 < len := ⟨(p * 7 + 3) % len, by rw [Int.tmod_eq_emod_of_nonneg (by omega)]; exact (Int.natCast_emod (p * 7 + 3) len).symm, Nat.mod_lt _ hpos⟩
    obtain ⟨d, ed, ld⟩ : ∃ d : Nat, (p : Int).tdiv len = d ∧ d ≤ p := ⟨p / len, by rw [Int.tdiv_eq_ediv_of_nonneg (by omega)]; exact (Int.natCast_ediv p len).symm, Nat.div_le_self _ _⟩
    have k1 := hc i1 l1
    have k2 := hc i2 l2
    obtain ⟨v1, hv1, lv1⟩ : ∃ v : Nat, q i1 = v ∧ v ≤ 255 := ⟨(q i1).toNat, by omega, by omega⟩
    obtain ⟨v2, hv2, lv2⟩ : ∃ v : Nat, q i2 = v ∧ v ≤ 255 := ⟨(q i2).toNat, by omega, by omega⟩
    rw [hv1] at k1
    rw [hv2] at k2
    have kc1 := k1.1
    have kc2 := k2.1
    clear k1 k2 hc hv1 hv2
    have L2 := Lib.hid l2
    have L1 := Lib.hid l1
    go_enter Try.func73, Try.ntmps73
    go_wp2_with fail
    go_big_region
    obtain ⟨x, hx, lx⟩ : ∃ x : Nat, (v1 : Int) * 131 + v2 * 1117 + p * 29 + d * 53 = x ∧ x < 1099511627776 := ⟨v1 * 131 + v2 * 1117 + p * 29 + d * 53, by omega, by omega⟩
    simp only [hx]
    have ex : bits .xor .i64 (x : Int) ((x : Int) / 64) = ((x ^^^ x / 64 : Nat) : Int) := bits_xor_nat x (x / 64) (by omega) (by omega)
    generalize x ^^^ x / 64 = y at ex
    clear hx kc1 kc2 c0 c1 f1 e1 e2 ed l1 l2 lv1 lv2 ld g1 hpl hl hg
    go_wp2
    go_ret
    refine ⟨y % n, Nat.mod_lt _ HN.out, ret_int ?_, RD.out.below (below_drewN (Below.refl _ _) 1), grownBy_trans GR.out (grownBy_below (below_drewN (Below.refl _ _) 1) _)⟩
    trace_state
    exact (Int.natCast_emod y n).symm

end Go.Proofs.Ytanncngbmgopnaa
