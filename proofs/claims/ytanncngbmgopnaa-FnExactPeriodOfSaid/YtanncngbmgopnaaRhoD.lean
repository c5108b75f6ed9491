/- Tail and loop of the way from a thing, as functions. No program in sight. No condition. -/
import Derived.Test.YtanncngbmgopnaaMath
namespace Go.Proofs.Ytanncngbmgopnaa

/-- Tail and loop of the way from x. -/
noncomputable def rho (s : Nat → Nat) (x : Nat) : Nat × Nat := Classical.epsilon (fun q : Nat × Nat => Rho s x q.1 q.2)
theorem rho_is {n : Nat} {s : Nat → Nat} (hs : Mp n s) {x : Nat} (hx : x < n) : Rho s x (rho s x).1 (rho s x).2 := by
  obtain ⟨t, l, _, hr⟩ := rho_ex hs hx
  exact Classical.epsilon_spec (p := fun q : Nat × Nat => Rho s x q.1 q.2) ⟨(t, l), hr⟩
theorem tail_is {n : Nat} {s : Nat → Nat} (hs : Mp n s) {x t l : Nat} (hx : x < n) (hr : Rho s x t l) : (rho s x).1 = t ∧ (rho s x).2 = l := (rho_is hs hx).uniq hr

end Go.Proofs.Ytanncngbmgopnaa
