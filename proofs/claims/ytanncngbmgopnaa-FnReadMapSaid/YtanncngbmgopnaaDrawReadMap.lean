/- spec.DrawReadMap: a drawn text. Condition: the code's bounds. -/
import Derived.Test.YtanncngbmgopnaaL20At
import Derived.Test.YtanncngbmgopnaaMapTxt
import Derived.Deep.RegionWith
import Derived.IntWalk
namespace Go.Proofs.Ytanncngbmgopnaa
open Go.RowKit
set_option linter.unusedVariables false

/-- A short text. -/
def RetShort (w : World) (e : Ending) (w' : World) : Prop := ∃ t : ByteArray, t.size ≤ 1000 ∧ e = .returned (.string t) ∧ Below w.heap.size w w'

theorem five_str {w : World} {b i : Nat} {a1 a2 a3 a4 a5 : ByteArray} (h : Bk w b #[.string a1, .string a2, .string a3, .string a4, .string a5] 9) (hi : i < 5) (h1 : a1.size ≤ 2) (h2 : a2.size ≤ 2) (h3 : a3.size ≤ 2) (h4 : a4.size ≤ 2) (h5 : a5.size ≤ 2) :
    ∃ y : ByteArray, w.cell? ⟨b, i, none⟩ = some (.string y) ∧ y.size ≤ 2 := by
  have h5 : i = 0 ∨ i = 1 ∨ i = 2 ∨ i = 3 ∨ i = 4 := by omega
  rcases h5 with rfl | rfl | rfl | rfl | rfl
  · exact ⟨a1, h.cell 0, h1⟩
  · exact ⟨a2, h.cell 1, h2⟩
  · exact ⟨a3, h.cell 2, h3⟩
  · exact ⟨a4, h.cell 3, h4⟩
  · exact ⟨a5, h.cell 4, by assumption⟩

theorem keep_own2 {a b : World} {B R : Nat} {v : Value} {xs : List Int} (h : Own a B v xs) (g : a.grownBy b (some R)) (hR : R < B) : Own b B v xs :=
  h.kept g (.inr fun e => by have := (h.block _ e).1; omega)
theorem keep_bel2 {w a b : World} (h : Below w.heap.size w a) (g : a.grownBy b (some w.heap.size)) : Below w.heap.size w b := h.grown g h.size (fun k e => by injection e; omega)

/-- A pick at a world in which the reader stands. -/
theorem pick_at5 (b p n : Nat) (z : Int) (hz : z = (n : Int)) (w : World) (hr : Rd w b p) (hn : 1 ≤ n) (hm : n ≤ 1000000) (hp : p ≤ 1000000) :
    Calls Try.prog 73 #[.pointer (some ⟨b, 0, none⟩), .int .i64 z] w fun e w' => ∃ k : Nat, k < n ∧ e = .returned (.int .i64 k) ∧ Rd w' b (p + 1) ∧ w.grownBy w' (some b) := hz ▸ pick_any b p n w hr hn hm hp
theorem ix5 {i : Nat} (h : i < 5) : (i : Int) < 5 ∧ (0 : Int) ≤ i ∧ (i : Int).toNat = i := by omega
theorem ext7 (t : ByteArray) (a b : Nat) (h : t.size ≤ 7) : (t.extract a b).size ≤ 7 := by rw [ByteArray.size_extract]; omega
theorem addS (P : Program) (a b : ByteArray) (ha : a.size ≤ 7) (hb : b.size ≤ 2) : ∃ u : ByteArray, (∀ w, (Op.stringOp .add a b).run P w = .ok (.string u) w) ∧ u.size ≤ 9 :=
  ⟨a ++ b, fun w => run_string_add_sum (P := P) (w := w) a b (by omega), by rw [ByteArray.size_append]; omega⟩
theorem addS2 (P : Program) (a b : ByteArray) (ha : a.size ≤ 9) (hb : b.size ≤ 7) : ∃ u : ByteArray, (∀ w, (Op.stringOp .add a b).run P w = .ok (.string u) w) ∧ u.size ≤ 16 :=
  ⟨a ++ b, fun w => run_string_add_sum (P := P) (w := w) a b (by omega), by rw [ByteArray.size_append]; omega⟩

attribute [local irreducible] Rd in
set_option maxHeartbeats 4000000 in
theorem drawReadMap_any (A : Option Addr) (n c : Nat) (q : Nat → Int) (w : World) (hA : Bytes w A n c q) :
    Calls Try.prog 37 #[.slice A n c] w (RetShort w) := by
  have HA := Lib.hid hA
  clear hA
  go_enter Try.func37, Try.ntmps37
  go_wp2_with fail
  refine (l20Open_any A n c q w HA.out).mono ?_
  rintro e w1 ⟨rfl, r1, b1⟩
  have B1 := Lib.hid b1
  have hlt1 := r1.lt
  go_wp2_with fail
  refine (l20Map_any w.heap.size 0 0 _ r1 (by omega) (by omega)).mono ?_
  rintro e w2 ⟨A2, k, c2, zs, hk, rfl, how, ⟨p2, hp2, rd2⟩, b2, hs, hval⟩
  obtain ⟨hs', hzs⟩ := (hval rfl).mp
  generalize (fun k => (zs k).toNat) = s at hs' hzs
  have HV := Lib.hid (how.viewL.congr hzs)
  have HS := Lib.hid hs'
  have hk1 := hs'.1
  have hk7 := hs'.2.1
  have B2 := Lib.hid (B1.out.trans b2)
  have RD := Lib.hid rd2
  have hlt2 := rd2.lt
  clear r1 b1 b2 how rd2 hval hs' hzs B1
  go_wp2_with fail
  refine (sMapText_yes _ _ _ s _ HV.out HS.out).mono ?_
  rintro e w3 ⟨rfl, b3⟩
  have hts := txt_size k s
  generalize (txt k s) = t at *
  have B3 := Lib.hid (below_more B2.out b3)
  have R3 := Lib.hid (RD.out.below b3)
  clear b3 B2 RD HV
  have ht1 : 1 ≤ t.size := by omega
  have ht7 : t.size ≤ 7 := by omega
  have HTS := Lib.hid hts
  clear hts
  go_wp2_with fail
  refine (pick_any w.heap.size p2 3 _ R3.out (by omega) (by omega) (by omega)).mono ?_
  rintro e w4 ⟨x, hx, rfl, r4, g4⟩
  have B4 := Lib.hid (keep_bel2 B3.out g4)
  have R4 := Lib.hid r4
  clear r4 g4 R3 B3
  by_cases hx0 : x = 0
  · have hx1 : ((x : Int) == 0) = true := by simp; omega
    obtain rfl := hx0
    go_wp2_with fail
    refine (pick_any w.heap.size (p2 + 1) t.size _ R4.out ht1 (by omega) (by omega)).mono ?_
    rintro e w5 ⟨j, hj, rfl, r5, g5⟩
    have B5 := Lib.hid (keep_bel2 B4.out g5)
    have R5 := Lib.hid (r5.below (Below.refl _ _).drew)
    have R5' := Lib.hid r5
    clear r5 g5 R4 B4
    have s1 : IntKind.i64.wrap ((j : Int) + 1) = (j : Int) + 1 := IntWalk.i64_in _ (by omega)
    have s2 : ((j : Int) + 1).toNat = j + 1 := by omega
    have s3 : (0 : Int) ≤ (j : Int) + 1 := by omega
    have s4 : (j : Int) + 1 ≤ (t.size : Int) := by omega
    have s5 : (j : Int) ≤ (t.size : Int) := by omega
    have hpe : p2 + 1 + 1 ≤ 1000000 := by omega
    have m5 : (5 : Nat) ≤ 1000000 := by omega
    have n5 : 1 ≤ 5 := by omega
    go_wp2_with fail
    go_region_with (first
      | (go_at_call 73; (with_reducible refine (pick_at5 w.heap.size (p2 + 1 + 1) 5 5 rfl _ R5.out n5 m5 hpe).mono ?_); rintro e w6 ⟨i, hi, rfl, _, g6⟩; obtain ⟨i1, i2, i3⟩ := ix5 hi; obtain ⟨y, hy, hy2⟩ := five_str (Bk.new w6 #[.string ⟨#[]⟩, .string ⟨#[48]⟩, .string ⟨#[55]⟩, .string ⟨#[120]⟩, .string ⟨#[49, 50]⟩] 9) hi (by decide) (by decide) (by decide) (by decide) (by decide); obtain ⟨u1, a1, z1⟩ := addS Try.prog (t.extract 0 j) y (ext7 t 0 j ht7) hy2; obtain ⟨u2, a2, z2⟩ := addS2 Try.prog u1 (t.extract (j + 1) t.size) z1 (ext7 t _ _ ht7); have G6 := Lib.hid g6; clear g6)
      | (go_at_call 73; (have r5' : Rd (w5.alloc (.cells #[.string ⟨#[]⟩, .string ⟨#[48]⟩, .string ⟨#[55]⟩, .string ⟨#[120]⟩, .string ⟨#[49, 50]⟩] 9)).drew w.heap.size (p2 + 1 + 1) := (R5'.out.below ((Below.refl _ _).alloc (Nat.le_refl _) _)).below (Below.refl _ _).drew); (with_reducible refine (pick_at5 w.heap.size (p2 + 1 + 1) 5 5 rfl _ r5' n5 m5 hpe).mono ?_); rintro e w6 ⟨i, hi, rfl, _, g6⟩; obtain ⟨i1, i2, i3⟩ := ix5 hi; obtain ⟨y, hy, hy2⟩ := five_str ((g6.block w5.heap.size (by show w5.heap.size < (w5.alloc _).heap.size; simp) (fun e => by injection e with e; have := R5'.out.lt; omega)).trans (Bk.new w5 #[.string ⟨#[]⟩, .string ⟨#[48]⟩, .string ⟨#[55]⟩, .string ⟨#[120]⟩, .string ⟨#[49, 50]⟩] 9)) hi (by decide) (by decide) (by decide) (by decide) (by decide); obtain ⟨u1, a1, z1⟩ := addS Try.prog (t.extract 0 j) y (ext7 t 0 j ht7) hy2; obtain ⟨u2, a2, z2⟩ := addS2 Try.prog u1 (t.extract (j + 1) t.size) z1 (ext7 t _ _ ht7); have G6 := Lib.hid g6; clear g6 r5'))
    · have E9 := Lib.hid (keep_bel2 ((B5.out.alloc B5.out.size (.cells #[.string ⟨#[]⟩, .string ⟨#[48]⟩, .string ⟨#[55]⟩, .string ⟨#[120]⟩, .string ⟨#[49, 50]⟩] 9)).drew) G6.out)
      clear G6 B5
      go_wp2
      go_ret
      exact ⟨u2, by omega, rfl, E9.out⟩
    · have e8 := keep_bel2 B5.out.drew G6.out
      have E9 := Lib.hid (e8.alloc e8.size (.cells #[.string ⟨#[]⟩, .string ⟨#[48]⟩, .string ⟨#[55]⟩, .string ⟨#[120]⟩, .string ⟨#[49, 50]⟩] 9))
      clear G6 B5 e8
      go_wp2
      go_ret
      exact ⟨u2, by omega, rfl, E9.out⟩
  · have hx1 : ((x : Int) == 0) = false := by simp; omega
    go_wp2
    go_ret
    exact ⟨t, by omega, rfl, B4.out⟩

end Go.Proofs.Ytanncngbmgopnaa
