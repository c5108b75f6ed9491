/- Texts of maps: the digits of the numbers; impl.digitsOf, spec.l1Number. Conditions: numbers of one digit. -/
import Derived.Test.YtanncngbmgopnaaOkImpl
import Derived.Test.YtanncngbmgopnaaOkSpec
import Derived.Lib.SlBytesRow
import Derived.Maps.AppendAt
import Derived.Laws.Concat
namespace Go.Proofs.Ytanncngbmgopnaa
open Go.RowKit
set_option linter.unusedVariables false

/-- The bytes of the digits of the first n numbers. -/
def digL (n : Nat) (s : Nat → Nat) : List UInt8 := (List.range n).map fun k => UInt8.ofNat (48 + s k)
/-- .. as a text. -/
def txt (n : Nat) (s : Nat → Nat) : ByteArray := ⟨(digL n s).toArray⟩

theorem digL_len (n : Nat) (s : Nat → Nat) : (digL n s).length = n := by simp [digL]
theorem digL_succ (n : Nat) (s : Nat → Nat) : digL (n + 1) s = digL n s ++ [UInt8.ofNat (48 + s n)] := by simp [digL, List.range_succ]
theorem txt_size (n : Nat) (s : Nat → Nat) : (txt n s).size = n := by
  show (digL n s).toArray.size = n
  simp [digL_len]
theorem txt_zero (s : Nat → Nat) : txt 0 s = ⟨#[]⟩ := rfl
theorem txt_succ (n : Nat) (s : Nat → Nat) : txt n s ++ ⟨#[UInt8.ofNat (48 + s n)]⟩ = txt (n + 1) s := by
  unfold txt
  simp [ByteArray.mk_append_mk, digL_succ]
theorem txt_at {n k : Nat} (s : Nat → Nat) (hk : k < (txt n s).size) (h : s k < 10) : ((txt n s)[k].toNat : Int) = 48 + s k := by
  have h1 : (txt n s)[k] = UInt8.ofNat (48 + s k) := by
    show (digL n s).toArray[k] = _
    simp [digL]
  rw [h1, UInt8.toNat_ofNat_of_lt' (by show 48 + s k < 256; omega)]
  rfl

theorem byte_info : (Try.prog.info? 5).map (fun i => (i.zero, i.size, i.bytes)) = some (some (.int .u8 0), 1, 1) := by kernel_rfl

/-- A slice of bytes of the call's own. -/
def OwnB (w : World) (base : Nat) (v : Value) (xs : List Int) : Prop := w.ownsRow base 5 1 v xs.length (xs.map (Value.int .u8))

theorem wpList_appB {w : World} {ops : Array Oper} {rest : List Oper} {o : Oper} {a : Act} {Q : Exit → Act → World → Prop} (hgd : o.guard = none) (s x : Operand)
    (ho : o.op = .call { callee := .builtin .append, args := #[s, x], argTypes := #[31, 31] })
    (base : Nat) (v : Value) (xs : List Int) (hs : a.eval s = v) (hown : OwnB w base v xs) (u : Int) (hx : a.eval x = .slice (some ⟨w.heap.size, 0, none⟩) 1 1)
    (hlen : xs.length ≤ 1099511627776) (hbase : base ≤ w.heap.size)
    (h : ∀ v' w', OwnB w' base v' (xs ++ [u]) → w.grownBy w' v.ownBlock → Below base w w' → wpList Try.prog ops Q rest (a.put o.dst v') w') :
    wpList Try.prog ops Q (o :: rest) a (w.alloc (.cells #[.int .u8 u] 5)) := by
  obtain ⟨i0, hi0, hz0, hz1, hz2⟩ := info_parts byte_info
  refine wpList_append_own _ hgd s x 31 ho base 5 i0 (.int .u8 0) 1 1 Try.underlying31 hi0 hz0 hz1 hz2 rfl (by decide) v xs.length (xs.map (Value.int .u8)) hs
    (World.ownsRow.alloc hown _) ⟨w.heap.size, 0, none⟩ 1 1 [.int .u8 u] hx rfl (cell_one_new _ _ _) (by intro z hz; simp at hz; subst hz; rfl) (by unfold maxLen; omega) (by omega)
    (Nat.le_trans hbase (by simp)) ?_
  intro v' w' hown' hgr _
  have hgr2 : w.grownBy w' v.ownBlock := grownBy_trans (World.grownBy_alloc w _ _) hgr
  refine h v' w' ?_ hgr2 ((Below.refl _ _).grown hgr2 hbase (fun k hk => (World.ownsRow.lt hown k hk).1))
  unfold OwnB
  simpa using hown'

/-- The numbers of the digits. -/
def digN (n : Nat) (s : Nat → Nat) : List Int := lst n (fun k => 48 + (s k : Int))

/-- A row of digits is a text. -/
theorem conv_digits {w : World} {base : Nat} {v : Value} {n : Nat} {s : Nat → Nat} (h : OwnB w base v (digN n s)) (hs : ∀ k, k < n → s k < 10) :
    (convert 31 9 v).run Try.prog w = .ok (.string (txt n s)) w := by
  have hl : (digN n s).length = n := length_lst _ _
  rcases h.2 with ⟨rfl, h0⟩ | ⟨g, cap, cur, rfl, hg, hh, hr⟩
  · obtain rfl : n = 0 := by omega
    rw [run_convert_bytes_string w 31 9 5 none 0 0 Try.underlying31 Try.underlying5 Try.underlying9]
    simp [Conv.bytesToString]
    rfl
  · rw [hl]
    have hb : Lib.Bytes w g 0 (txt n s) := fun i hi => by
      have hi' : i < n := by rw [txt_size] at hi; exact hi
      have hc : w.cell? ⟨g, i, none⟩ = some (.int .u8 (48 + (s i : Int))) := by
        rw [World.ownsRow.cellAt h i (by omega), List.getElem?_map]
        simp [digN, lst, hi']
      rw [Nat.zero_add, hc, txt_at s hi (hs i hi')]
    have := Lib.run_convert_whole (P := Try.prog) w 31 5 9 Try.underlying31 Try.underlying5 Try.underlying9 g 0 (txt n s) hb cap
    rw [txt_size] at this
    exact this

set_option maxHeartbeats 1000000 in
theorem digitsOf_any (A : Option Addr) (n c : Nat) (s : Nat → Nat) (w : World) (hA : View w A n (up s)) (hn : n ≤ 7) (hs : ∀ k, k < n → s k < 10) :
    Calls Try.prog 60 #[.slice A n c] w fun e w' => e = .returned (.string (txt n s)) ∧ Below w.heap.size w w' := by
  have HS := Lib.hid hs
  clear hs
  obtain ⟨i0, hi0, hz0, hz1, hz2⟩ := info_parts byte_info
  go_enter Try.func60, Try.ntmps60
  go_wp2_with (at_make; refine wpList_make_own _ rfl _ _ 31 rfl w.heap.size 5 i0 (.int .u8 0) 1 Try.underlying31 hi0 hz0 hz1 .i64 .i64 _ n rfl rfl rfl (by rw [hz2]; omega) (by unfold maxLen; omega) (Nat.le_refl _) ?_; intro w1 hown1 hgr1)
  have how1 : OwnB w1 w.heap.size (.slice (some ⟨w.heap.size, 0, none⟩) 0 n) [] := hown1
  have hb1 : Below w.heap.size w w1 := (Below.refl _ _).grown hgr1 (Nat.le_refl _) (by intro k hk; cases hk)
  clear hown1 hgr1
  go_loopw [3, 11] (fun v i wr => ∃ k : Nat, k ≤ n ∧ i = .int .i64 k ∧ OwnB wr w.heap.size v (digN k s) ∧ Below w.heap.size w wr) (fun _ i _ => n - (intOf i).toNat)
  case atStart => exact ⟨0, Nat.zero_le _, rfl, how1, hb1⟩
  case round =>
    obtain ⟨k, hk, rfl, how, hb⟩ := hrel
    have hA' := hA.below hb
    have HO := Lib.hid how
    by_cases hlt : k < n
    · obtain ⟨g, off, rfl, hg, hc⟩ := hA' (by omega)
      have c1 : wr.cell? ⟨g, off + k, none⟩ = some (.int .i64 (s k : Int)) := hc k hlt
      have hsk := HS.out k hlt
      clear hc how
      go_wp2_with (at_builtin; refine wpList_appB rfl (.tmp 15) (.tmp 19) rfl w.heap.size _ _ rfl HO.out _ rfl (by unfold digN; rw [length_lst]; omega) hb.size ?_; intro v2 w2 how2 _ hb2)
      have how3 : OwnB w2 w.heap.size v2 (digN (k + 1) s) := by unfold digN; rw [lst_succ]; exact how2
      clear how2
      go_roundw
      case rel => exact ⟨k + 1, by omega, by go_num, how3, hb.trans (hb2.mono (by first | omega | exact hb.size))⟩
      case measure => simp [intOf]; omega
    · obtain rfl : k = n := by omega
      have hcv := conv_digits (w := wr) HO.out HS.out
      go_wp2
      go_ret
      exact ⟨rfl, hb⟩

end Go.Proofs.Ytanncngbmgopnaa
