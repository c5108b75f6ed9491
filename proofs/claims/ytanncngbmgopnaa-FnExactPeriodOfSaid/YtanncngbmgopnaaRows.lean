/-
  No cell of these rows narrows 'for every input' (looked for: loops, veiled, ifaces, maps, wideKeys, modest, calm, conditions, laid).
  DERIVED. THE GIVEN ROWS OF THIS SEAT. 12 by the template 'for every input the law returns true; each argument reads behind the call as it read before'; 0 by the template 'total and deterministic' (their statements: YtanncngbmgopnaaTotals.lean).
  GIVEN WITH THE SEED: the statements are not yours to turn. If you find one false, say at which input.
  Laid BY PROGRAM, IN A SANDBOX (cutbox-rows.mjs): the forced cells as the released guide's own fill.sh prints them over the translation 18f848061a9d0b95… (all of the seat's roots in one cut). By AI agents, Wed Nov 11 2026. No macro, syntax, notation, axiom, sorry.
-/
import Derived.Test.YtanncngbmgopnaaChecked
import GoSem.Claim
import GoSem.ClaimJoined
import GoSem.ClaimMapViews
import Derived.JoinedTies
import Derived.KernelRfl
namespace Go.Proofs.Ytanncngbmgopnaa
/- THE CELL 'sum', in the pinned program and in every row, IS THE sha256 OF THE DUMP (.gsa) THAT YtanncngbmgopnaaProg.lean LOADS. Nothing in Lean hashes anything: it is a label: what it is worth is what the hold of that sum in a sandbox is worth. -/
noncomputable def Try.pinned : Pinned := { name := "ytanncngbmgopnaa", sum := "18f848061a9d0b9591eeb3bd6175085f6efcac5247ad7414dff8dd16b19b4b55", checked := Try.checked }
namespace Rows
def none {H : Type} : Left H := { results := [], args := [] }

/-- 'laws.FnExactMapText': WHATEVER THE INPUT: true; the input reads as it did. -/
def fnExactMapTextSpec : ChangeSpec := { name := "fnExactMapText", fn := fun _ => fun
  | [d] => { results := [.lit (.bool true)], args := [d] }
  | _ => none }
def fnExactMapTextRow : OpenClaim := { program := "ytanncngbmgopnaa", sum := "18f848061a9d0b9591eeb3bd6175085f6efcac5247ad7414dff8dd16b19b4b55", func := "loop.example/selfmaps/laws.FnExactMapText", spec := "fnExactMapText", recurses := true, apart := false }
def FnExactMapTextSaid : Prop := fnExactMapTextRow.holds Try.pinned (OpenSpec.ofChange fnExactMapTextSpec)

/-- ITS FALSE NEIGHBOUR: 'it returns false'. Refute it at one input. -/
def fnExactMapTextWrong : ChangeSpec := { name := "fnExactMapText", fn := fun _ => fun
  | [d] => { results := [.lit (.bool false)], args := [d] }
  | _ => none }
def FnExactMapTextWrongFalsely : Prop := fnExactMapTextRow.holds Try.pinned (OpenSpec.ofChange fnExactMapTextWrong)

/-- 'laws.FnExactReadMap': WHATEVER THE INPUT: true; the input reads as it did. -/
def fnExactReadMapSpec : ChangeSpec := { name := "fnExactReadMap", fn := fun _ => fun
  | [d] => { results := [.lit (.bool true)], args := [d] }
  | _ => none }
def fnExactReadMapRow : OpenClaim := { program := "ytanncngbmgopnaa", sum := "18f848061a9d0b9591eeb3bd6175085f6efcac5247ad7414dff8dd16b19b4b55", func := "loop.example/selfmaps/laws.FnExactReadMap", spec := "fnExactReadMap", apart := false }
def FnExactReadMapSaid : Prop := fnExactReadMapRow.holds Try.pinned (OpenSpec.ofChange fnExactReadMapSpec)

/-- ITS FALSE NEIGHBOUR: 'it returns false'. Refute it at one input. -/
def fnExactReadMapWrong : ChangeSpec := { name := "fnExactReadMap", fn := fun _ => fun
  | [d] => { results := [.lit (.bool false)], args := [d] }
  | _ => none }
def FnExactReadMapWrongFalsely : Prop := fnExactReadMapRow.holds Try.pinned (OpenSpec.ofChange fnExactReadMapWrong)

/-- 'laws.FnLoopsOf': WHATEVER THE INPUT: true; the input reads as it did. -/
def fnLoopsOfSpec : ChangeSpec := { name := "fnLoopsOf", fn := fun _ => fun
  | [d] => { results := [.lit (.bool true)], args := [d] }
  | _ => none }
def fnLoopsOfRow : OpenClaim := { program := "ytanncngbmgopnaa", sum := "18f848061a9d0b9591eeb3bd6175085f6efcac5247ad7414dff8dd16b19b4b55", func := "loop.example/selfmaps/laws.FnLoopsOf", spec := "fnLoopsOf", apart := false }
def FnLoopsOfSaid : Prop := fnLoopsOfRow.holds Try.pinned (OpenSpec.ofChange fnLoopsOfSpec)

/-- ITS FALSE NEIGHBOUR: 'it returns false'. Refute it at one input. -/
def fnLoopsOfWrong : ChangeSpec := { name := "fnLoopsOf", fn := fun _ => fun
  | [d] => { results := [.lit (.bool false)], args := [d] }
  | _ => none }
def FnLoopsOfWrongFalsely : Prop := fnLoopsOfRow.holds Try.pinned (OpenSpec.ofChange fnLoopsOfWrong)

/-- 'laws.FnMapText': WHATEVER THE INPUT: true; the input reads as it did. -/
def fnMapTextSpec : ChangeSpec := { name := "fnMapText", fn := fun _ => fun
  | [d] => { results := [.lit (.bool true)], args := [d] }
  | _ => none }
def fnMapTextRow : OpenClaim := { program := "ytanncngbmgopnaa", sum := "18f848061a9d0b9591eeb3bd6175085f6efcac5247ad7414dff8dd16b19b4b55", func := "loop.example/selfmaps/laws.FnMapText", spec := "fnMapText", recurses := true, apart := false }
def FnMapTextSaid : Prop := fnMapTextRow.holds Try.pinned (OpenSpec.ofChange fnMapTextSpec)

/-- ITS FALSE NEIGHBOUR: 'it returns false'. Refute it at one input. -/
def fnMapTextWrong : ChangeSpec := { name := "fnMapText", fn := fun _ => fun
  | [d] => { results := [.lit (.bool false)], args := [d] }
  | _ => none }
def FnMapTextWrongFalsely : Prop := fnMapTextRow.holds Try.pinned (OpenSpec.ofChange fnMapTextWrong)

/-- 'laws.FnExactByPowers': WHATEVER THE INPUT: true; the input reads as it did. -/
def fnExactByPowersSpec : ChangeSpec := { name := "fnExactByPowers", fn := fun _ => fun
  | [d1, d2] => { results := [.lit (.bool true)], args := [d1, d2] }
  | _ => none }
def fnExactByPowersRow : OpenClaim := { program := "ytanncngbmgopnaa", sum := "18f848061a9d0b9591eeb3bd6175085f6efcac5247ad7414dff8dd16b19b4b55", func := "loop.example/selfmaps/laws.FnExactByPowers", spec := "fnExactByPowers", unfollowed := true, recurses := true, apart := false }
def FnExactByPowersSaid : Prop := fnExactByPowersRow.holds Try.pinned (OpenSpec.ofChange fnExactByPowersSpec)

/-- ITS FALSE NEIGHBOUR: 'it returns false'. Refute it at one input. -/
def fnExactByPowersWrong : ChangeSpec := { name := "fnExactByPowers", fn := fun _ => fun
  | [d1, d2] => { results := [.lit (.bool false)], args := [d1, d2] }
  | _ => none }
def FnExactByPowersWrongFalsely : Prop := fnExactByPowersRow.holds Try.pinned (OpenSpec.ofChange fnExactByPowersWrong)

/-- 'laws.FnReadMap': WHATEVER THE INPUT: true; the input reads as it did. -/
def fnReadMapSpec : ChangeSpec := { name := "fnReadMap", fn := fun _ => fun
  | [d] => { results := [.lit (.bool true)], args := [d] }
  | _ => none }
def fnReadMapRow : OpenClaim := { program := "ytanncngbmgopnaa", sum := "18f848061a9d0b9591eeb3bd6175085f6efcac5247ad7414dff8dd16b19b4b55", func := "loop.example/selfmaps/laws.FnReadMap", spec := "fnReadMap", recurses := true, apart := false }
def FnReadMapSaid : Prop := fnReadMapRow.holds Try.pinned (OpenSpec.ofChange fnReadMapSpec)

/-- ITS FALSE NEIGHBOUR: 'it returns false'. Refute it at one input. -/
def fnReadMapWrong : ChangeSpec := { name := "fnReadMap", fn := fun _ => fun
  | [d] => { results := [.lit (.bool false)], args := [d] }
  | _ => none }
def FnReadMapWrongFalsely : Prop := fnReadMapRow.holds Try.pinned (OpenSpec.ofChange fnReadMapWrong)

/-- 'laws.FnStepsOf': WHATEVER THE INPUT: true; the input reads as it did. -/
def fnStepsOfSpec : ChangeSpec := { name := "fnStepsOf", fn := fun _ => fun
  | [d] => { results := [.lit (.bool true)], args := [d] }
  | _ => none }
def fnStepsOfRow : OpenClaim := { program := "ytanncngbmgopnaa", sum := "18f848061a9d0b9591eeb3bd6175085f6efcac5247ad7414dff8dd16b19b4b55", func := "loop.example/selfmaps/laws.FnStepsOf", spec := "fnStepsOf", apart := false }
def FnStepsOfSaid : Prop := fnStepsOfRow.holds Try.pinned (OpenSpec.ofChange fnStepsOfSpec)

/-- ITS FALSE NEIGHBOUR: 'it returns false'. Refute it at one input. -/
def fnStepsOfWrong : ChangeSpec := { name := "fnStepsOf", fn := fun _ => fun
  | [d] => { results := [.lit (.bool false)], args := [d] }
  | _ => none }
def FnStepsOfWrongFalsely : Prop := fnStepsOfRow.holds Try.pinned (OpenSpec.ofChange fnStepsOfWrong)

/-- 'laws.FnIdempotentOk': WHATEVER THE INPUT: true; the input reads as it did. -/
def fnIdempotentOkSpec : ChangeSpec := { name := "fnIdempotentOk", fn := fun _ => fun
  | [d] => { results := [.lit (.bool true)], args := [d] }
  | _ => none }
def fnIdempotentOkRow : OpenClaim := { program := "ytanncngbmgopnaa", sum := "18f848061a9d0b9591eeb3bd6175085f6efcac5247ad7414dff8dd16b19b4b55", func := "loop.example/selfmaps/laws.FnIdempotentOk", spec := "fnIdempotentOk", apart := false }
def FnIdempotentOkSaid : Prop := fnIdempotentOkRow.holds Try.pinned (OpenSpec.ofChange fnIdempotentOkSpec)

/-- ITS FALSE NEIGHBOUR: 'it returns false'. Refute it at one input. -/
def fnIdempotentOkWrong : ChangeSpec := { name := "fnIdempotentOk", fn := fun _ => fun
  | [d] => { results := [.lit (.bool false)], args := [d] }
  | _ => none }
def FnIdempotentOkWrongFalsely : Prop := fnIdempotentOkRow.holds Try.pinned (OpenSpec.ofChange fnIdempotentOkWrong)

/-- 'laws.FnByPowers': WHATEVER THE INPUT: true; the input reads as it did. -/
def fnByPowersSpec : ChangeSpec := { name := "fnByPowers", fn := fun _ => fun
  | [d] => { results := [.lit (.bool true)], args := [d] }
  | _ => none }
def fnByPowersRow : OpenClaim := { program := "ytanncngbmgopnaa", sum := "18f848061a9d0b9591eeb3bd6175085f6efcac5247ad7414dff8dd16b19b4b55", func := "loop.example/selfmaps/laws.FnByPowers", spec := "fnByPowers", unfollowed := true, recurses := true, apart := false }
def FnByPowersSaid : Prop := fnByPowersRow.holds Try.pinned (OpenSpec.ofChange fnByPowersSpec)

/-- ITS FALSE NEIGHBOUR: 'it returns false'. Refute it at one input. -/
def fnByPowersWrong : ChangeSpec := { name := "fnByPowers", fn := fun _ => fun
  | [d] => { results := [.lit (.bool false)], args := [d] }
  | _ => none }
def FnByPowersWrongFalsely : Prop := fnByPowersRow.holds Try.pinned (OpenSpec.ofChange fnByPowersWrong)

/-- 'laws.FnExactPeriodOf': WHATEVER THE INPUT: true; the input reads as it did. -/
def fnExactPeriodOfSpec : ChangeSpec := { name := "fnExactPeriodOf", fn := fun _ => fun
  | [d] => { results := [.lit (.bool true)], args := [d] }
  | _ => none }
def fnExactPeriodOfRow : OpenClaim := { program := "ytanncngbmgopnaa", sum := "18f848061a9d0b9591eeb3bd6175085f6efcac5247ad7414dff8dd16b19b4b55", func := "loop.example/selfmaps/laws.FnExactPeriodOf", spec := "fnExactPeriodOf", unfollowed := true, recurses := true, apart := false }
def FnExactPeriodOfSaid : Prop := fnExactPeriodOfRow.holds Try.pinned (OpenSpec.ofChange fnExactPeriodOfSpec)

/-- ITS FALSE NEIGHBOUR: 'it returns false'. Refute it at one input. -/
def fnExactPeriodOfWrong : ChangeSpec := { name := "fnExactPeriodOf", fn := fun _ => fun
  | [d] => { results := [.lit (.bool false)], args := [d] }
  | _ => none }
def FnExactPeriodOfWrongFalsely : Prop := fnExactPeriodOfRow.holds Try.pinned (OpenSpec.ofChange fnExactPeriodOfWrong)

/-- 'laws.FnExactLoopsOf': WHATEVER THE INPUT: true; the input reads as it did. -/
def fnExactLoopsOfSpec : ChangeSpec := { name := "fnExactLoopsOf", fn := fun _ => fun
  | [d] => { results := [.lit (.bool true)], args := [d] }
  | _ => none }
def fnExactLoopsOfRow : OpenClaim := { program := "ytanncngbmgopnaa", sum := "18f848061a9d0b9591eeb3bd6175085f6efcac5247ad7414dff8dd16b19b4b55", func := "loop.example/selfmaps/laws.FnExactLoopsOf", spec := "fnExactLoopsOf", apart := false }
def FnExactLoopsOfSaid : Prop := fnExactLoopsOfRow.holds Try.pinned (OpenSpec.ofChange fnExactLoopsOfSpec)

/-- ITS FALSE NEIGHBOUR: 'it returns false'. Refute it at one input. -/
def fnExactLoopsOfWrong : ChangeSpec := { name := "fnExactLoopsOf", fn := fun _ => fun
  | [d] => { results := [.lit (.bool false)], args := [d] }
  | _ => none }
def FnExactLoopsOfWrongFalsely : Prop := fnExactLoopsOfRow.holds Try.pinned (OpenSpec.ofChange fnExactLoopsOfWrong)

/-- 'laws.FnLotsOf': WHATEVER THE INPUT: true; the input reads as it did. -/
def fnLotsOfSpec : ChangeSpec := { name := "fnLotsOf", fn := fun _ => fun
  | [d] => { results := [.lit (.bool true)], args := [d] }
  | _ => none }
def fnLotsOfRow : OpenClaim := { program := "ytanncngbmgopnaa", sum := "18f848061a9d0b9591eeb3bd6175085f6efcac5247ad7414dff8dd16b19b4b55", func := "loop.example/selfmaps/laws.FnLotsOf", spec := "fnLotsOf", apart := false }
def FnLotsOfSaid : Prop := fnLotsOfRow.holds Try.pinned (OpenSpec.ofChange fnLotsOfSpec)

/-- ITS FALSE NEIGHBOUR: 'it returns false'. Refute it at one input. -/
def fnLotsOfWrong : ChangeSpec := { name := "fnLotsOf", fn := fun _ => fun
  | [d] => { results := [.lit (.bool false)], args := [d] }
  | _ => none }
def FnLotsOfWrongFalsely : Prop := fnLotsOfRow.holds Try.pinned (OpenSpec.ofChange fnLotsOfWrong)

/- THE SECOND FORM. 'bulk': how many values and letters a reading holds, each counted each time it is reached (what is shared counts as often as it is met; a slice's spare places count too). A statement '..UptoSaid' is the law's where the arguments, and the package variables that the reading takes, are together of bulk at most 1048576: NARROWER than '..Said'. Prove '..Said' where nothing that the law and all that it calls make is longer than what came in: it says more and counts as full. Else prove '..UptoSaid'. A law counts once. -/
mutual
def uptoBulk {H : Type} : DataW H → Nat
  | .lit (.string bytes) => bytes.length + 1
  | .lit _ => 1
  | .nil => 1
  | .ptr d => uptoBulk d + 1
  | .slice elems spare => uptoBulkAll elems + uptoBulkAll spare + 1
  | .agg parts => uptoBulkAll parts + 1
  | .iface _ d => uptoBulk d + 1
  | .map entries => uptoBulkEntries entries + 1
  | .held _ => 1
def uptoBulkAll {H : Type} : List (DataW H) → Nat
  | [] => 0
  | d :: r => uptoBulk d + uptoBulkAll r
def uptoBulkEntries {H : Type} : List (Lit × DataW H) → Nat
  | [] => 0
  | x :: r => uptoBulkEntry x + uptoBulkEntries r
def uptoBulkEntry {H : Type} : Lit × DataW H → Nat
  | (.string bytes, d) => bytes.length + uptoBulk d + 1
  | (_, d) => uptoBulk d + 1
 end
def uptoSmall : (H : Type) → List (DataW H) → Bool := fun _ ds => decide (uptoBulkAll ds ≤ 1048576)
def OpenSpec.upto (s : _root_.Go.ChangeSpec) : _root_.Go.OpenSpec := { _root_.Go.OpenSpec.ofChange s with cond := some uptoSmall }

/-- 'laws.FnExactMapText', WHERE WHAT IT READS IS OF BULK AT MOST 1048576: true; the input reads as it did. -/
def fnExactMapTextUptoRow : OpenClaim := { program := "ytanncngbmgopnaa", sum := "18f848061a9d0b9591eeb3bd6175085f6efcac5247ad7414dff8dd16b19b4b55", func := "loop.example/selfmaps/laws.FnExactMapText", spec := "fnExactMapText", recurses := true, apart := false, narrowed := true }
def FnExactMapTextUptoSaid : Prop := fnExactMapTextUptoRow.holds Try.pinned (OpenSpec.upto fnExactMapTextSpec)

/-- 'laws.FnExactReadMap', WHERE WHAT IT READS IS OF BULK AT MOST 1048576: true; the input reads as it did. -/
def fnExactReadMapUptoRow : OpenClaim := { program := "ytanncngbmgopnaa", sum := "18f848061a9d0b9591eeb3bd6175085f6efcac5247ad7414dff8dd16b19b4b55", func := "loop.example/selfmaps/laws.FnExactReadMap", spec := "fnExactReadMap", apart := false, narrowed := true }
def FnExactReadMapUptoSaid : Prop := fnExactReadMapUptoRow.holds Try.pinned (OpenSpec.upto fnExactReadMapSpec)

/-- 'laws.FnLoopsOf', WHERE WHAT IT READS IS OF BULK AT MOST 1048576: true; the input reads as it did. -/
def fnLoopsOfUptoRow : OpenClaim := { program := "ytanncngbmgopnaa", sum := "18f848061a9d0b9591eeb3bd6175085f6efcac5247ad7414dff8dd16b19b4b55", func := "loop.example/selfmaps/laws.FnLoopsOf", spec := "fnLoopsOf", apart := false, narrowed := true }
def FnLoopsOfUptoSaid : Prop := fnLoopsOfUptoRow.holds Try.pinned (OpenSpec.upto fnLoopsOfSpec)

/-- 'laws.FnMapText', WHERE WHAT IT READS IS OF BULK AT MOST 1048576: true; the input reads as it did. -/
def fnMapTextUptoRow : OpenClaim := { program := "ytanncngbmgopnaa", sum := "18f848061a9d0b9591eeb3bd6175085f6efcac5247ad7414dff8dd16b19b4b55", func := "loop.example/selfmaps/laws.FnMapText", spec := "fnMapText", recurses := true, apart := false, narrowed := true }
def FnMapTextUptoSaid : Prop := fnMapTextUptoRow.holds Try.pinned (OpenSpec.upto fnMapTextSpec)

/-- 'laws.FnExactByPowers', WHERE WHAT IT READS IS OF BULK AT MOST 1048576: true; the input reads as it did. -/
def fnExactByPowersUptoRow : OpenClaim := { program := "ytanncngbmgopnaa", sum := "18f848061a9d0b9591eeb3bd6175085f6efcac5247ad7414dff8dd16b19b4b55", func := "loop.example/selfmaps/laws.FnExactByPowers", spec := "fnExactByPowers", unfollowed := true, recurses := true, apart := false, narrowed := true }
def FnExactByPowersUptoSaid : Prop := fnExactByPowersUptoRow.holds Try.pinned (OpenSpec.upto fnExactByPowersSpec)

/-- 'laws.FnReadMap', WHERE WHAT IT READS IS OF BULK AT MOST 1048576: true; the input reads as it did. -/
def fnReadMapUptoRow : OpenClaim := { program := "ytanncngbmgopnaa", sum := "18f848061a9d0b9591eeb3bd6175085f6efcac5247ad7414dff8dd16b19b4b55", func := "loop.example/selfmaps/laws.FnReadMap", spec := "fnReadMap", recurses := true, apart := false, narrowed := true }
def FnReadMapUptoSaid : Prop := fnReadMapUptoRow.holds Try.pinned (OpenSpec.upto fnReadMapSpec)

/-- 'laws.FnStepsOf', WHERE WHAT IT READS IS OF BULK AT MOST 1048576: true; the input reads as it did. -/
def fnStepsOfUptoRow : OpenClaim := { program := "ytanncngbmgopnaa", sum := "18f848061a9d0b9591eeb3bd6175085f6efcac5247ad7414dff8dd16b19b4b55", func := "loop.example/selfmaps/laws.FnStepsOf", spec := "fnStepsOf", apart := false, narrowed := true }
def FnStepsOfUptoSaid : Prop := fnStepsOfUptoRow.holds Try.pinned (OpenSpec.upto fnStepsOfSpec)

/-- 'laws.FnIdempotentOk', WHERE WHAT IT READS IS OF BULK AT MOST 1048576: true; the input reads as it did. -/
def fnIdempotentOkUptoRow : OpenClaim := { program := "ytanncngbmgopnaa", sum := "18f848061a9d0b9591eeb3bd6175085f6efcac5247ad7414dff8dd16b19b4b55", func := "loop.example/selfmaps/laws.FnIdempotentOk", spec := "fnIdempotentOk", apart := false, narrowed := true }
def FnIdempotentOkUptoSaid : Prop := fnIdempotentOkUptoRow.holds Try.pinned (OpenSpec.upto fnIdempotentOkSpec)

/-- 'laws.FnByPowers', WHERE WHAT IT READS IS OF BULK AT MOST 1048576: true; the input reads as it did. -/
def fnByPowersUptoRow : OpenClaim := { program := "ytanncngbmgopnaa", sum := "18f848061a9d0b9591eeb3bd6175085f6efcac5247ad7414dff8dd16b19b4b55", func := "loop.example/selfmaps/laws.FnByPowers", spec := "fnByPowers", unfollowed := true, recurses := true, apart := false, narrowed := true }
def FnByPowersUptoSaid : Prop := fnByPowersUptoRow.holds Try.pinned (OpenSpec.upto fnByPowersSpec)

/-- 'laws.FnExactPeriodOf', WHERE WHAT IT READS IS OF BULK AT MOST 1048576: true; the input reads as it did. -/
def fnExactPeriodOfUptoRow : OpenClaim := { program := "ytanncngbmgopnaa", sum := "18f848061a9d0b9591eeb3bd6175085f6efcac5247ad7414dff8dd16b19b4b55", func := "loop.example/selfmaps/laws.FnExactPeriodOf", spec := "fnExactPeriodOf", unfollowed := true, recurses := true, apart := false, narrowed := true }
def FnExactPeriodOfUptoSaid : Prop := fnExactPeriodOfUptoRow.holds Try.pinned (OpenSpec.upto fnExactPeriodOfSpec)

/-- 'laws.FnExactLoopsOf', WHERE WHAT IT READS IS OF BULK AT MOST 1048576: true; the input reads as it did. -/
def fnExactLoopsOfUptoRow : OpenClaim := { program := "ytanncngbmgopnaa", sum := "18f848061a9d0b9591eeb3bd6175085f6efcac5247ad7414dff8dd16b19b4b55", func := "loop.example/selfmaps/laws.FnExactLoopsOf", spec := "fnExactLoopsOf", apart := false, narrowed := true }
def FnExactLoopsOfUptoSaid : Prop := fnExactLoopsOfUptoRow.holds Try.pinned (OpenSpec.upto fnExactLoopsOfSpec)

/-- 'laws.FnLotsOf', WHERE WHAT IT READS IS OF BULK AT MOST 1048576: true; the input reads as it did. -/
def fnLotsOfUptoRow : OpenClaim := { program := "ytanncngbmgopnaa", sum := "18f848061a9d0b9591eeb3bd6175085f6efcac5247ad7414dff8dd16b19b4b55", func := "loop.example/selfmaps/laws.FnLotsOf", spec := "fnLotsOf", apart := false, narrowed := true }
def FnLotsOfUptoSaid : Prop := fnLotsOfUptoRow.holds Try.pinned (OpenSpec.upto fnLotsOfSpec)

end Rows
end Go.Proofs.Ytanncngbmgopnaa
