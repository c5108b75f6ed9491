/- impl.walked and impl.WayFrom: the things on the way from a thing, and the thing to which it comes back. Conditions: a map and one of its things, or none. -/
import Derived.Test.YtanncngbmgopnaaWayD
import Derived.ScopeJumps
namespace Go.Proofs.Ytanncngbmgopnaa
open Go.RowKit
set_option linter.unusedVariables false

/-- What impl.walked gives. -/
def RetWay (w : World) (xs : List Int) (back : Int) (e : Ending) (w' : World) : Prop :=
  ∃ A c, e = .returned (.tuple #[.slice A xs.length c, .int .i64 back]) ∧ Own w' w.heap.size (.slice A xs.length c) xs ∧ Below w.heap.size w w'
theorem RetWay.of_ {w w' : World} {xs : List Int} {back : Int} {v : Value} {e : Ending} (h1 : e = .returned (.tuple #[v, .int .i64 back])) (h2 : Own w' w.heap.size v xs) (h3 : Below w.heap.size w w') : RetWay w xs back e w' := by
  obtain ⟨A, c, rfl, _⟩ := h2.form
  exact ⟨A, c, h1, h2, h3⟩

set_option maxHeartbeats 2000000 in
theorem walked_any (A : Option Addr) (n c x t l : Nat) (s : Nat → Nat) (w : World) (hA : View w A n (up s)) (hs : Mp n s) (hx : x < n) (hr : Rho s x t l) :
    Calls Try.prog 76 #[.slice A n c, .int .i64 x] w (RetWay w (lst (t + l) (way s x)) (way s x t)) := by
  have h7 := hs.2.1
  have hle := hr.le hs hx
  have hlp := hr.pos
  have hi : ∀ j, it s j x < n := it_lt hs hx
  have hi7 : ∀ j, it s j x < 7 := fun j => Nat.lt_of_lt_of_le (hi j) h7
  have HI := Lib.hid hi
  have HI7 := Lib.hid hi7
  have HR := Lib.hid hr
  clear hi hi7 hs hr
  obtain ⟨g, off, rfl, hg, hc⟩ := hA (by omega)
  have HC := Lib.hid hc
  clear hc hA
  -- one pass: the test says 'onward' or 'back' by whether k + 1 things are all
  have go : ∀ k, k + 1 < t + l → (bits .and .i64 (bits .or .i64 (msk s x k) (wrap64 (2 ^ (it s k x)))) (wrap64 (2 ^ (it s (k + 1) x))) == 0) = true := fun k hk =>
    and_clear (k := k + 1) HI7.out (HI7.out (k + 1)) (fun j hj => HR.out.2.2 j (k + 1) hj hk)
  have stop : ∀ k, k + 1 = t + l → (bits .and .i64 (bits .or .i64 (msk s x k) (wrap64 (2 ^ (it s k x)))) (wrap64 (2 ^ (it s (k + 1) x))) == 0) = false := fun k hk =>
    and_set (k := k + 1) HI7.out (HI7.out (k + 1)) (j := t) (by omega) (by rw [hk]; exact HR.out.back.symm)
  have GO := Lib.hid go
  have STOP := Lib.hid stop
  clear go stop
  go_enter Try.func76, Try.ntmps76
  go_wp2_with fail
  refine wp_scope_jumps 0 (fun a' w' => ∃ (k : Nat) (v u9 u10 u11 u12 u13 u14 u15 u16 u17 u18 u19 u20 u21 u22 u23 u24 u25 u26 u27 u28 : Value),
    a' = { tmps := #[.slice (some ⟨g, off, none⟩) n c, .int .i64 x, undef, undef, .slice none 0 0, .int .i64 0, v, .int .i64 (msk s x k), .int .i64 (it s k x : Int), u9, u10, u11, u12, u13, u14, u15, u16, u17, u18, u19, u20, u21, u22, u23, u24, u25, u26, u27, u28], defers := [] } ∧
      k + 1 ≤ t + l ∧ Own w' w.heap.size v (lst k (way s x)) ∧ Below w.heap.size w w') (fun a' _ => t + l - lenOf (a'.tmps.getD 6 undef)) rfl ?_ ?_
  · have how : Own w w.heap.size (.slice none 0 0) [] := Own.nil _ _
    have c1 : w.cell? ⟨g, off + x, none⟩ = some (.int .i64 (it s 1 x : Int)) := HC.out x hx
    have hi1 := HI.out 1
    by_cases hlt : 1 < t + l
    · have ht : (bits .and .i64 (bits .or .i64 0 (wrap64 (2 ^ x))) (wrap64 (2 ^ (it s 1 x))) == 0) = true := GO.out 0 hlt
      go_wp2
      go_step3
      go_wp2_with (at_builtin; refine wpList_app1 rfl (.tmp 10) (.tmp 12) rfl w.heap.size _ _ rfl how _ rfl (by simp) (Nat.le_refl _) ?_; intro v1 w1 how1 _ hb1; have c2 := (hb1.cell (p := ⟨g, off + x, none⟩) hg).trans c1)
      go_step3
      exact ⟨rfl, 1, _, _, _, _, _, _, _, _, _, _, _, _, _, _, _, _, _, _, _, _, _, rfl, by omega, how1, hb1⟩
    · have ht : (bits .and .i64 (bits .or .i64 0 (wrap64 (2 ^ x))) (wrap64 (2 ^ (it s 1 x))) == 0) = false := STOP.out 0 (by omega)
      go_wp2
      go_step3
      go_wp2_with (at_builtin; refine wpList_app1 rfl (.tmp 10) (.tmp 12) rfl w.heap.size _ _ rfl how _ rfl (by simp) (Nat.le_refl _) ?_; intro v1 w1 how1 _ hb1; have c2 := (hb1.cell (p := ⟨g, off + x, none⟩) hg).trans c1)
      simp only [Exit.jump]
      go_ret2
      obtain rfl : t = 0 := by omega
      obtain rfl : l = 1 := by omega
      have hbk : it s 1 x = x := HR.out.back
      exact RetWay.of_ (by simp only [way, hbk]; rfl) how1 hb1
  · rintro a' w' ⟨k, v, u9, u10, u11, u12, u13, u14, u15, u16, u17, u18, u19, u20, u21, u22, u23, u24, u25, u26, u27, u28, rfl, hk, how, hb⟩
    have hik := HI.out k
    have hik1 := HI.out (k + 1)
    have c1 : w'.cell? ⟨g, off + it s k x, none⟩ = some (.int .i64 (it s (k + 1) x : Int)) := (hb.cell (p := ⟨g, off + it s k x, none⟩) hg).trans (HC.out _ hik)
    by_cases hlt : k + 1 < t + l
    · have ht := GO.out k hlt
      go_wp2_with (at_builtin; refine wpList_app1 rfl (.tmp 10) (.tmp 12) rfl w.heap.size _ _ rfl how _ rfl (by rw [length_lst]; omega) hb.size ?_; intro v1 w1 how1 _ hb1; have c2 := (hb1.cell (p := ⟨g, off + it s k x, none⟩) hg).trans c1)
      go_step3
      have how2 : Own w1 w.heap.size v1 (lst (k + 1) (way s x)) := by rw [lst_succ]; exact how1
      refine ⟨rfl, ⟨k + 1, _, _, _, _, _, _, _, _, _, _, _, _, _, _, _, _, _, _, _, _, _, rfl, by omega, how2, hb.trans hb1⟩, ?_⟩
      show t + l - lenOf v1 < t + l - lenOf v
      rw [lenOf_own how2, lenOf_own how, length_lst, length_lst]
      omega
    · have hkt : k + 1 = t + l := by omega
      have ht := STOP.out k hkt
      have hbk : it s (k + 1) x = it s t x := by rw [hkt]; exact HR.out.back
      have HB := Lib.hid hbk
      have HK := Lib.hid hkt
      clear hbk hkt
      go_wp2_with (at_builtin; refine wpList_app1 rfl (.tmp 10) (.tmp 12) rfl w.heap.size _ _ rfl how _ rfl (by rw [length_lst]; omega) hb.size ?_; intro v1 w1 how1 _ hb1; have c2 := (hb1.cell (p := ⟨g, off + it s k x, none⟩) hg).trans c1)
      simp only [Exit.jump]
      go_ret2
      have how2 : Own w1 w.heap.size v1 (lst (t + l) (way s x)) := by rw [← HK.out, lst_succ]; exact how1
      exact RetWay.of_ (by simp only [way, ← HB.out]; rfl) how2 (hb.trans hb1)

set_option maxHeartbeats 1000000 in
theorem wayFrom_yes (A : Option Addr) (n c x t l : Nat) (s : Nat → Nat) (w : World) (hA : View w A n (up s)) (hs : Mp n s) (hx : x < n) (hr : Rho s x t l) :
    Calls Try.prog 64 #[.slice A n c, .int .i64 x] w (RetOwn w (lst (t + l) (way s x))) := by
  have HS := Lib.hid hs
  have HR := Lib.hid hr
  clear hs hr
  go_enter Try.func64, Try.ntmps64
  go_wp2_with fail
  refine (thingOk_yes _ _ _ _ _ _ hA HS.out.valid hx).mono ?_
  rintro e w_ ⟨rfl, rfl⟩
  go_wp2_with fail
  refine (walked_any _ _ _ _ _ _ _ _ hA HS.out hx HR.out).mono ?_
  rintro e w1 ⟨A1, c1, rfl, o1, b1⟩
  go_wp2
  go_ret
  exact RetOwn.of_ rfl o1 b1

set_option maxHeartbeats 1000000 in
theorem wayFrom_no (A : Option Addr) (n c : Nat) (x : Int) (p : Nat → Int) (w : World) (hA : View w A n p) (hn : n ≤ 1099511627776) (h : ¬ (Valid n p ∧ 0 ≤ x ∧ x < n)) :
    Calls Try.prog 64 #[.slice A n c, .int .i64 x] w (RetOwn w []) := by
  have HH := Lib.hid h
  clear h
  go_enter Try.func64, Try.ntmps64
  go_wp2_with fail
  refine (thingOk_no _ _ _ _ _ _ hA hn HH.out).mono ?_
  rintro e w_ ⟨rfl, rfl⟩
  go_wp2
  go_ret
  exact RetOwn.of_ rfl (Own.nil _ _) (Below.refl _ _)

end Go.Proofs.Ytanncngbmgopnaa
