/- Plain facts on what is led to a thing. No program in sight. No condition. -/
import Derived.Test.YtanncngbmgopnaaMath
namespace Go.Proofs.Ytanncngbmgopnaa
set_option linter.unusedVariables false

/-- The first k things that are led to v, in order. -/
def fromTo (s : Nat → Nat) (v : Int) : Nat → List Int
  | 0 => []
  | k + 1 => if (s k : Int) = v then fromTo s v k ++ [(k : Int)] else fromTo s v k

theorem fromTo_hit {s : Nat → Nat} {v : Int} {k : Nat} (h : (s k : Int) = v) : fromTo s v (k + 1) = fromTo s v k ++ [(k : Int)] := by rw [fromTo, if_pos h]
theorem fromTo_miss {s : Nat → Nat} {v : Int} {k : Nat} (h : ¬ (s k : Int) = v) : fromTo s v (k + 1) = fromTo s v k := by rw [fromTo, if_neg h]
theorem length_fromTo (s : Nat → Nat) (v : Int) (k : Nat) : (fromTo s v k).length ≤ k := by
  induction k with
  | zero => simp [fromTo]
  | succ k ih =>
    rw [fromTo]
    split
    · simp; omega
    · omega
theorem mem_fromTo (s : Nat → Nat) (v z : Int) (k : Nat) : z ∈ fromTo s v k ↔ ∃ j, j < k ∧ z = (j : Int) ∧ (s j : Int) = v := by
  induction k with
  | zero => simp [fromTo]
  | succ k ih =>
    by_cases h : (s k : Int) = v
    · rw [fromTo_hit h]
      simp only [List.mem_append, ih, List.mem_singleton]
      constructor
      · rintro (⟨j, hj, e⟩ | e)
        · exact ⟨j, by omega, e⟩
        · exact ⟨k, by omega, e, h⟩
      · rintro ⟨j, hj, e1, e2⟩
        rcases Nat.lt_succ_iff_lt_or_eq.1 hj with h1 | rfl
        · exact .inl ⟨j, h1, e1, e2⟩
        · exact .inr e1
    · rw [fromTo_miss h, ih]
      constructor
      · rintro ⟨j, hj, e⟩
        exact ⟨j, by omega, e⟩
      · rintro ⟨j, hj, e1, e2⟩
        rcases Nat.lt_succ_iff_lt_or_eq.1 hj with h1 | rfl
        · exact ⟨j, h1, e1, e2⟩
        · exact absurd e2 h

/-- The first thing that is led where some thing is led stands at the head. -/
theorem fromTo_first {s : Nat → Nat} {v : Int} : ∀ (m i : Nat), i < m → (s i : Int) = v → ∃ t, t < m ∧ t ≤ i ∧ (s t : Int) = v ∧ (∀ i, i < t → (s i : Int) ≠ v) ∧ nth (fromTo s v m) 0 = (t : Int) ∧ 0 < (fromTo s v m).length := by
  intro m
  induction m with
  | zero => intro i hi; omega
  | succ m ihm =>
    intro i hi ei
    by_cases him : i < m
    · obtain ⟨t, h1, h2, h3, h4, h5, h6⟩ := ihm i him ei
      refine ⟨t, by omega, h2, h3, h4, ?_, ?_⟩
      · rw [fromTo]
        split
        · simp only [nth] at h5 ⊢
          rw [List.getD_eq_getElem?_getD, List.getElem?_append_left h6, ← List.getD_eq_getElem?_getD]
          exact h5
        · exact h5
      · rw [fromTo]
        split
        · simp
        · exact h6
    · obtain rfl : i = m := by omega
      by_cases hq : ∃ q, q < i ∧ (s q : Int) = v
      · obtain ⟨q, hq1, hq2⟩ := hq
        obtain ⟨t, h1, h2, h3, h4, h5, h6⟩ := ihm q hq1 hq2
        refine ⟨t, by omega, by omega, h3, h4, ?_, ?_⟩
        · rw [fromTo_hit ei]
          simp only [nth] at h5 ⊢
          rw [List.getD_eq_getElem?_getD, List.getElem?_append_left h6, ← List.getD_eq_getElem?_getD]
          exact h5
        · rw [fromTo_hit ei]; simp
      · have hn : fromTo s v i = [] := by
          apply List.eq_nil_iff_forall_not_mem.2
          intro z hz
          obtain ⟨q, h1, _, h2⟩ := (mem_fromTo s v z i).1 hz
          exact hq ⟨q, h1, h2⟩
        refine ⟨i, by omega, Nat.le_refl _, ei, fun q h1 h2 => hq ⟨q, h1, h2⟩, ?_, ?_⟩
        · rw [fromTo_hit ei, hn]; rfl
        · rw [fromTo_hit ei]; simp

/-- No two of the first k things are led to one thing. -/
def Inj (k : Nat) (s : Nat → Nat) : Prop := ∀ i j, i < j → j < k → s i ≠ s j
theorem Inj.zero (s : Nat → Nat) : Inj 0 s := fun _ _ _ h => absurd h (by omega)
theorem Inj.succ {k : Nat} {s : Nat → Nat} (h : Inj k s) (e : ∀ i, i < k → s i ≠ s k) : Inj (k + 1) s := fun i j hij hj => by
  rcases Nat.lt_succ_iff_lt_or_eq.1 hj with h1 | rfl
  · exact h i j hij h1
  · exact e i hij
theorem Inj.eq {k : Nat} {s : Nat → Nat} (h : Inj k s) {i j : Nat} (hi : i < k) (hj : j < k) (e : s i = s j) : i = j := by
  rcases Nat.lt_trichotomy i j with h1 | h1 | h1
  · exact absurd e (h i j h1 hj)
  · exact h1
  · exact absurd e.symm (h j i h1 hi)

/-- Where no two things are led to one thing each thing is hit. -/
theorem Inj.surj {n : Nat} {s : Nat → Nat} (hs : ∀ k, k < n → s k < n) (h : Inj n s) {v : Nat} (hv : v < n) : ∃ k, k < n ∧ s k = v := by
  by_cases hex : ∃ k, k < n ∧ s k = v
  · exact hex
  · obtain ⟨i, j, hij, hj, e⟩ := pigeon n (fun i => if i < n then s i else v) (fun i _ => by
      show (if i < n then s i else v) < n
      split
      · exact hs i ‹_›
      · exact hv)
    rw [if_pos (show i < n by omega)] at e
    by_cases hjn : j < n
    · rw [if_pos hjn] at e
      exact absurd e (h i j hij hjn)
    · rw [if_neg hjn] at e
      exact absurd ⟨i, by omega, e⟩ hex

/-- Where each thing is hit no two are led to one thing. -/
theorem surj_inj {n : Nat} {s : Nat → Nat} (hs : ∀ k, k < n → s k < n) (h : ∀ v, v < n → ∃ k, k < n ∧ s k = v) : Inj n s := by
  -- a choice of what is led to each thing is itself without doubles, so it hits all
  let g : Nat → Nat := fun v => Classical.epsilon (fun k => k < n ∧ s k = v)
  have hg : ∀ v, v < n → g v < n ∧ s (g v) = v := fun v hv => Classical.epsilon_spec (p := fun k => k < n ∧ s k = v) (h v hv)
  have hgi : Inj n g := fun i j hij hj e => by
    have h1 := (hg i (by omega)).2
    have h2 := (hg j hj).2
    rw [e, h2] at h1
    omega
  intro i j hij hj e
  obtain ⟨a, ha, ea⟩ := hgi.surj (fun k hk => (hg k hk).1) (v := i) (by omega)
  obtain ⟨b, hb, eb⟩ := hgi.surj (fun k hk => (hg k hk).1) (v := j) hj
  have h1 := (hg a ha).2
  have h2 := (hg b hb).2
  rw [ea] at h1
  rw [eb] at h2
  have : a = b := by omega
  subst this
  omega

/-- Just one thing is led to each of the first k. -/
def Ones (k n : Nat) (s : Nat → Nat) : Prop := ∀ v, v < k → (fromTo s v n).length = 1

theorem length_one {s : Nat → Nat} {n : Nat} (h : Inj n s) {k : Nat} (hk : k < n) : fromTo s (s k : Int) n = [(k : Int)] := by
  have key : ∀ m, m ≤ n → fromTo s (s k : Int) m = if k < m then [(k : Int)] else [] := by
    intro m
    induction m with
    | zero => intro _; simp [fromTo]
    | succ m ih =>
      intro hm
      rcases Nat.lt_trichotomy k m with h1 | h1 | h1
      · have hne : ¬ (s m : Int) = (s k : Int) := by have := h k m h1 (by omega); omega
        rw [fromTo_miss hne, ih (by omega), if_pos h1, if_pos (by omega)]
      · subst h1
        rw [fromTo_hit rfl, ih (by omega), if_neg (by omega), if_pos (by omega)]
        rfl
      · have hne : ¬ (s m : Int) = (s k : Int) := by have := h m k h1 hk; omega
        rw [fromTo_miss hne, ih (by omega), if_neg (by omega), if_neg (by omega)]
  rw [key n (Nat.le_refl _), if_pos hk]

theorem Inj.ones {n : Nat} {s : Nat → Nat} (hs : ∀ k, k < n → s k < n) (h : Inj n s) : Ones n n s := fun v hv => by
  obtain ⟨k, hk, rfl⟩ := h.surj hs hv
  rw [length_one h hk]; rfl
theorem Ones.inj {n : Nat} {s : Nat → Nat} (hs : ∀ k, k < n → s k < n) (h : Ones n n s) : Inj n s := surj_inj hs fun v hv => by
  have h1 := h v hv
  cases e : fromTo s (v : Int) n with
  | nil => rw [e] at h1; simp at h1
  | cons z l =>
    obtain ⟨j, hj, _, h3⟩ := (mem_fromTo s v z n).1 (by rw [e]; simp)
    exact ⟨j, hj, by omega⟩

/-- The map that leads back, in the making: k things are laid. -/
def turnTo (s : Nat → Nat) (n : Nat) : Nat → List Int
  | 0 => List.replicate n 0
  | k + 1 => (turnTo s n k).set (s k) (k : Int)
theorem length_turnTo (s : Nat → Nat) (n k : Nat) : (turnTo s n k).length = n := by
  induction k with
  | zero => simp [turnTo]
  | succ k ih => simp [turnTo, ih]
/-- The thing that is led to v, where there is just one. -/
def turned (s : Nat → Nat) (n : Nat) (v : Nat) : Int := nth (fromTo s v n) 0

theorem turnTo_at {s : Nat → Nat} {n : Nat} (hs : ∀ k, k < n → s k < n) (h : Inj n s) : ∀ m, m ≤ n → ∀ k, k < m → (turnTo s n m)[s k]? = some (k : Int) := by
  intro m
  induction m with
  | zero => intro _ k hk; omega
  | succ m ih =>
    intro hm k hk
    rw [turnTo, List.getElem?_set, length_turnTo]
    by_cases hkm : k = m
    · subst hkm
      simp [hs k (by omega)]
    · have hne : s m ≠ s k := fun e => hkm (h.eq (by omega) (by omega) e.symm)
      rw [if_neg hne]
      exact ih (by omega) k (by omega)

theorem turnTo_full {s : Nat → Nat} {n : Nat} (hs : ∀ k, k < n → s k < n) (h : Inj n s) : turnTo s n n = lst n (turned s n) := by
  apply List.ext_getElem?
  intro v
  by_cases hv : v < n
  · obtain ⟨k, hk, rfl⟩ := h.surj hs hv
    rw [turnTo_at hs h n (Nat.le_refl _) k hk]
    simp [lst, hv, turned, length_one h hk, nth]
  · rw [List.getElem?_eq_none (by rw [length_turnTo]; omega), List.getElem?_eq_none (by rw [length_lst]; omega)]

end Go.Proofs.Ytanncngbmgopnaa
