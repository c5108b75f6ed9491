/- The program's and the reference's ReadMap. Conditions: a map's text, or none; the text's length. -/
import Derived.Test.YtanncngbmgopnaaTxt
import Derived.Test.YtanncngbmgopnaaApp
namespace Go.Proofs.Ytanncngbmgopnaa
open Go.RowKit
set_option linter.unusedVariables false

/-- The numbers that a text's bytes tell. -/
def rd (t : ByteArray) (k : Nat) : Int := ((t.data.toList.getD k 0).toNat : Int) - 48
theorem rd_at {t : ByteArray} {k : Nat} (h : k < t.size) : (t[k].toNat : Int) - 48 = rd t k := by
  unfold rd
  have h1 : k < t.data.toList.length := by simpa using h
  rw [List.getD_eq_getElem?_getD, List.getElem?_eq_getElem h1]
  rfl

theorem own_nil2 (w : World) : Own (w.alloc (.cells #[] 3)) w.heap.size (.slice (some ⟨w.heap.size, 0, none⟩) 0 0) [] := World.ownsRow_lit w #[] 0 (Nat.le_refl _) (Nat.zero_le _) rfl
theorem below_nil2 (w : World) : Below w.heap.size w (w.alloc (.cells #[] 3)) := (Below.refl _ _).alloc (Nat.le_refl _) _

set_option maxHeartbeats 1000000 in
theorem readMap_yes (t : ByteArray) (n : Nat) (hn : t.size = n) (w : World) (hv : Valid n (rd t)) :
    Calls Try.prog 20 #[.string t] w (RetOwnB w (lst n (rd t)) true) := by
  have hn1 := hv.1
  have hn7 := hv.2.1
  have HV := Lib.hid hv
  clear hv
  obtain ⟨i0, hi0, hz0, hz1, hz2⟩ := info_parts int_info
  subst hn
  go_enter Try.func20, Try.ntmps20
  go_wp2_with (at_make; refine wpList_make_full _ rfl _ _ 22 rfl w.heap.size 3 i0 (.int .i64 0) 1 Try.underlying22 hi0 hz0 hz1 .i64 .i64 _ _ t.size rfl rfl rfl rfl (by rw [hz2]; omega) (by unfold maxLen; omega) (Nat.le_refl _) ?_; intro w1 hown1 hgr1)
  have how1 := Own.made hown1
  have hb1 : Below w.heap.size w w1 := (Below.refl _ _).grown hgr1 (Nat.le_refl _) (by intro k hk; cases hk)
  clear hown1 hgr1
  go_loopw [19] (fun i wr => ∃ k : Nat, k ≤ t.size ∧ i = .int .i64 k ∧ Own wr w.heap.size (.slice (some ⟨w.heap.size, 0, none⟩) t.size t.size) (part k t.size (rd t)) ∧ Below w.heap.size w wr) (fun i _ => t.size - (intOf i).toNat)
  case atStart => exact ⟨0, Nat.zero_le _, rfl, by rw [part_zero]; exact how1, hb1⟩
  case round =>
    obtain ⟨k, hk, rfl, how, hb⟩ := hrel
    by_cases hlt : k < t.size
    · have h255 : t[k].toNat < 256 := t[k].toNat_lt
      have cf := how.frozen k
      have cs := how.cellsAt k (by rw [length_part _ (by omega)]; exact hlt)
      have st := Lib.hid ((part_set (rd t) hlt) ▸ (how.stored k (rd t k)).1)
      have hbb := hb.setCell (p := ⟨w.heap.size, k, none⟩) (Nat.le_refl _) (.int .i64 (rd t k))
      have hr := rd_at hlt
      have hr0 : -48 ≤ rd t k := by omega
      have hr1 : rd t k ≤ 255 := by omega
      go_wp2
      go_roundw
      case rel => exact ⟨k + 1, by omega, by go_num, st.out, hbb⟩
      case measure => simp [intOf]; omega
    · obtain rfl : k = t.size := by omega
      rw [part_full] at how
      have HO := Lib.hid how
      clear how
      go_wp2_with fail
      refine (mapOk_yes _ _ _ _ _ HO.out.viewL HV.out).mono ?_
      rintro e w_ ⟨rfl, rfl⟩
      go_wp2
      go_ret2
      exact RetOwnB.of_ rfl HO.out hb

set_option maxHeartbeats 1000000 in
theorem readMap_mid (t : ByteArray) (n : Nat) (hn : t.size = n) (w : World) (hn1 : 1 ≤ n) (hn7 : n ≤ 7) (hv : ¬ Valid n (rd t)) :
    Calls Try.prog 20 #[.string t] w (RetOwnB w [] false) := by
  have HV := Lib.hid hv
  clear hv
  obtain ⟨i0, hi0, hz0, hz1, hz2⟩ := info_parts int_info
  subst hn
  go_enter Try.func20, Try.ntmps20
  go_wp2_with (at_make; refine wpList_make_full _ rfl _ _ 22 rfl w.heap.size 3 i0 (.int .i64 0) 1 Try.underlying22 hi0 hz0 hz1 .i64 .i64 _ _ t.size rfl rfl rfl rfl (by rw [hz2]; omega) (by unfold maxLen; omega) (Nat.le_refl _) ?_; intro w1 hown1 hgr1)
  have how1 := Own.made hown1
  have hb1 : Below w.heap.size w w1 := (Below.refl _ _).grown hgr1 (Nat.le_refl _) (by intro k hk; cases hk)
  clear hown1 hgr1
  go_loopw [19] (fun i wr => ∃ k : Nat, k ≤ t.size ∧ i = .int .i64 k ∧ Own wr w.heap.size (.slice (some ⟨w.heap.size, 0, none⟩) t.size t.size) (part k t.size (rd t)) ∧ Below w.heap.size w wr) (fun i _ => t.size - (intOf i).toNat)
  case atStart => exact ⟨0, Nat.zero_le _, rfl, by rw [part_zero]; exact how1, hb1⟩
  case round =>
    obtain ⟨k, hk, rfl, how, hb⟩ := hrel
    by_cases hlt : k < t.size
    · have h255 : t[k].toNat < 256 := t[k].toNat_lt
      have cf := how.frozen k
      have cs := how.cellsAt k (by rw [length_part _ (by omega)]; exact hlt)
      have st := Lib.hid ((part_set (rd t) hlt) ▸ (how.stored k (rd t k)).1)
      have hbb := hb.setCell (p := ⟨w.heap.size, k, none⟩) (Nat.le_refl _) (.int .i64 (rd t k))
      have hr := rd_at hlt
      have hr0 : -48 ≤ rd t k := by omega
      have hr1 : rd t k ≤ 255 := by omega
      go_wp2
      go_roundw
      case rel => exact ⟨k + 1, by omega, by go_num, st.out, hbb⟩
      case measure => simp [intOf]; omega
    · obtain rfl : k = t.size := by omega
      rw [part_full] at how
      have HO := Lib.hid how
      clear how
      go_wp2_with fail
      refine (mapOk_no _ _ _ _ _ HO.out.viewL HV.out (by omega)).mono ?_
      rintro e w_ ⟨rfl, rfl⟩
      go_wp2
      go_ret2
      exact RetOwnB.of_ rfl (Own.nil _ _) hb

set_option maxHeartbeats 1000000 in
theorem readMap_no (t : ByteArray) (n : Nat) (hn : t.size = n) (w : World) (hv : ¬ Valid n (rd t)) :
    Calls Try.prog 20 #[.string t] w (RetOwnB w [] false) := by
  by_cases h1 : 1 ≤ n ∧ n ≤ 7
  · exact readMap_mid t n hn w h1.1 h1.2 hv
  · subst hn
    clear hv
    by_cases h0 : 1 ≤ t.size
    · have h7 : (7 : Int) < (t.size : Int) := by omega
      have h0' : ¬ (t.size : Int) < 1 := by omega
      clear h1
      go_enter Try.func20, Try.ntmps20
      go_wp2
      go_ret2
      exact RetOwnB.of_ rfl (Own.nil _ _) (Below.refl _ _)
    · have h0' : (t.size : Int) < 1 := by omega
      clear h1 h0
      go_enter Try.func20, Try.ntmps20
      go_wp2
      go_ret2
      exact RetOwnB.of_ rfl (Own.nil _ _) (Below.refl _ _)

set_option maxHeartbeats 1000000 in
theorem sReadMap_yes (t : ByteArray) (n : Nat) (hn : t.size = n) (w : World) (hb : n ≤ 1048576) (hv : Valid n (rd t)) :
    Calls Try.prog 19 #[.string t] w (RetOwnB w (lst n (rd t)) true) := by
  have HV := Lib.hid hv
  clear hv
  subst hn
  go_enter Try.func19, Try.ntmps19
  go_wp2
  go_loopw [4, 5] (fun v i wr => ∃ k : Nat, k ≤ t.size ∧ i = .int .i64 k ∧ Own wr w.heap.size v (lst k (rd t)) ∧ Below w.heap.size w wr) (fun _ i _ => t.size - (intOf i).toNat)
  case atStart => exact ⟨0, Nat.zero_le _, rfl, own_nil2 w, below_nil2 w⟩
  case round =>
    obtain ⟨k, hk, rfl, how, hb⟩ := hrel
    have HO := Lib.hid how
    by_cases hlt : k < t.size
    · have h255 : t[k].toNat < 256 := t[k].toNat_lt
      have hr := rd_at hlt
      have hr0 : -48 ≤ rd t k := by omega
      have hr1 : rd t k ≤ 255 := by omega
      clear how
      go_wp2_with (at_builtin; refine wpList_app1 rfl (.tmp 13) (.tmp 19) rfl w.heap.size _ _ rfl HO.out _ rfl (by rw [length_lst]; omega) hb.size ?_; intro v2 w2 how2 _ hb2)
      have how3 : Own w2 w.heap.size v2 (lst (k + 1) (rd t)) := by rw [lst_succ]; exact how2
      clear how2
      go_roundw
      case rel => exact ⟨k + 1, by omega, by go_num, how3, hb.trans hb2⟩
      case measure => simp [intOf]; omega
    · obtain rfl : k = t.size := by omega
      obtain ⟨A2, c2, rfl, _⟩ := how.form
      rw [length_lst] at HO ⊢
      have HVW := Lib.hid HO.out.viewL
      have hsz := hb.size
      clear how
      go_wp2_with fail
      refine (sMapOk_yes _ _ _ _ _ HVW.out HV.out).mono ?_
      rintro e w_ ⟨rfl, rfl⟩
      go_wp2
      go_ret2
      exact RetOwnB.of_ rfl HO.out hb

set_option maxHeartbeats 1000000 in
theorem sReadMap_no (t : ByteArray) (n : Nat) (hn : t.size = n) (w : World) (hb : n ≤ 1048576) (hv : ¬ Valid n (rd t)) :
    Calls Try.prog 19 #[.string t] w (RetOwnB w [] false) := by
  have HV := Lib.hid hv
  clear hv
  subst hn
  go_enter Try.func19, Try.ntmps19
  go_wp2
  go_loopw [4, 5] (fun v i wr => ∃ k : Nat, k ≤ t.size ∧ i = .int .i64 k ∧ Own wr w.heap.size v (lst k (rd t)) ∧ Below w.heap.size w wr) (fun _ i _ => t.size - (intOf i).toNat)
  case atStart => exact ⟨0, Nat.zero_le _, rfl, own_nil2 w, below_nil2 w⟩
  case round =>
    obtain ⟨k, hk, rfl, how, hb⟩ := hrel
    have HO := Lib.hid how
    by_cases hlt : k < t.size
    · have h255 : t[k].toNat < 256 := t[k].toNat_lt
      have hr := rd_at hlt
      have hr0 : -48 ≤ rd t k := by omega
      have hr1 : rd t k ≤ 255 := by omega
      clear how
      go_wp2_with (at_builtin; refine wpList_app1 rfl (.tmp 13) (.tmp 19) rfl w.heap.size _ _ rfl HO.out _ rfl (by rw [length_lst]; omega) hb.size ?_; intro v2 w2 how2 _ hb2)
      have how3 : Own w2 w.heap.size v2 (lst (k + 1) (rd t)) := by rw [lst_succ]; exact how2
      clear how2
      go_roundw
      case rel => exact ⟨k + 1, by omega, by go_num, how3, hb.trans hb2⟩
      case measure => simp [intOf]; omega
    · obtain rfl : k = t.size := by omega
      obtain ⟨A2, c2, rfl, _⟩ := how.form
      rw [length_lst] at HO ⊢
      have HVW := Lib.hid HO.out.viewL
      have hsz := hb.size
      clear how
      go_wp2_with fail
      refine (sMapOk_no _ _ _ _ _ HVW.out HV.out (by omega)).mono ?_
      rintro e w_ ⟨rfl, rfl⟩
      go_wp2
      go_ret2
      exact RetOwnB.of_ rfl ((own_nil2 wr).mono hsz) (below_more hb (below_nil2 wr))

end Go.Proofs.Ytanncngbmgopnaa
