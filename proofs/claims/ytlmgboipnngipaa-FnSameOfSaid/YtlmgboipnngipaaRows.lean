/-
  No cell of these rows narrows 'for every input' (looked for: loops, veiled, ifaces, maps, wideKeys, modest, calm, conditions, laid).
  DERIVED. THE GIVEN ROWS OF THIS SEAT. 12 by the template 'for every input the law returns true; each argument reads behind the call as it read before'; 0 by the template 'total and deterministic' (their statements: YtlmgboipnngipaaTotals.lean).
  GIVEN WITH THE SEED: the statements are not yours to turn. If you find one false, say at which input.
  Laid BY PROGRAM, IN A SANDBOX (cutbox-rows.mjs): the forced cells as the released guide's own fill.sh prints them over the translation 34df1558996e0257… (all of the seat's roots in one cut). By AI agents, Wed Nov 11 2026. No macro, syntax, notation, axiom, sorry.
-/
import Derived.Test.YtlmgboipnngipaaChecked
import GoSem.Claim
import GoSem.ClaimJoined
import GoSem.ClaimMapViews
import Derived.JoinedTies
import Derived.KernelRfl
namespace Go.Proofs.Ytlmgboipnngipaa
/- THE CELL 'sum', in the pinned program and in every row, IS THE sha256 OF THE DUMP (.gsa) THAT YtlmgboipnngipaaProg.lean LOADS. Nothing in Lean hashes anything: it is a label: what it is worth is what the hold of that sum in a sandbox is worth. -/
noncomputable def Try.pinned : Pinned := { name := "ytlmgboipnngipaa", sum := "34df1558996e0257791000ff2c65df87f71db0afa1c9e1827b61a6d9fe7c4cbe", checked := Try.checked }
namespace Rows
def none {H : Type} : Left H := { results := [], args := [] }

/-- 'laws.FnExactAlikeOf': WHATEVER THE INPUT: true; the input reads as it did. -/
def fnExactAlikeOfSpec : ChangeSpec := { name := "fnExactAlikeOf", fn := fun _ => fun
  | [d] => { results := [.lit (.bool true)], args := [d] }
  | _ => none }
def fnExactAlikeOfRow : OpenClaim := { program := "ytlmgboipnngipaa", sum := "34df1558996e0257791000ff2c65df87f71db0afa1c9e1827b61a6d9fe7c4cbe", func := "loop.example/selfmaps/laws.FnExactAlikeOf", spec := "fnExactAlikeOf", apart := false }
def FnExactAlikeOfSaid : Prop := fnExactAlikeOfRow.holds Try.pinned (OpenSpec.ofChange fnExactAlikeOfSpec)

/-- ITS FALSE NEIGHBOUR: 'it returns false'. Refute it at one input. -/
def fnExactAlikeOfWrong : ChangeSpec := { name := "fnExactAlikeOf", fn := fun _ => fun
  | [d] => { results := [.lit (.bool false)], args := [d] }
  | _ => none }
def FnExactAlikeOfWrongFalsely : Prop := fnExactAlikeOfRow.holds Try.pinned (OpenSpec.ofChange fnExactAlikeOfWrong)

/-- 'laws.FnExactWayFrom': WHATEVER THE INPUT: true; the input reads as it did. -/
def fnExactWayFromSpec : ChangeSpec := { name := "fnExactWayFrom", fn := fun _ => fun
  | [d1, d2] => { results := [.lit (.bool true)], args := [d1, d2] }
  | _ => none }
def fnExactWayFromRow : OpenClaim := { program := "ytlmgboipnngipaa", sum := "34df1558996e0257791000ff2c65df87f71db0afa1c9e1827b61a6d9fe7c4cbe", func := "loop.example/selfmaps/laws.FnExactWayFrom", spec := "fnExactWayFrom", apart := false }
def FnExactWayFromSaid : Prop := fnExactWayFromRow.holds Try.pinned (OpenSpec.ofChange fnExactWayFromSpec)

/-- ITS FALSE NEIGHBOUR: 'it returns false'. Refute it at one input. -/
def fnExactWayFromWrong : ChangeSpec := { name := "fnExactWayFrom", fn := fun _ => fun
  | [d1, d2] => { results := [.lit (.bool false)], args := [d1, d2] }
  | _ => none }
def FnExactWayFromWrongFalsely : Prop := fnExactWayFromRow.holds Try.pinned (OpenSpec.ofChange fnExactWayFromWrong)

/-- 'laws.FnExactTurnedOf': WHATEVER THE INPUT: true; the input reads as it did. -/
def fnExactTurnedOfSpec : ChangeSpec := { name := "fnExactTurnedOf", fn := fun _ => fun
  | [d] => { results := [.lit (.bool true)], args := [d] }
  | _ => none }
def fnExactTurnedOfRow : OpenClaim := { program := "ytlmgboipnngipaa", sum := "34df1558996e0257791000ff2c65df87f71db0afa1c9e1827b61a6d9fe7c4cbe", func := "loop.example/selfmaps/laws.FnExactTurnedOf", spec := "fnExactTurnedOf", apart := false }
def FnExactTurnedOfSaid : Prop := fnExactTurnedOfRow.holds Try.pinned (OpenSpec.ofChange fnExactTurnedOfSpec)

/-- ITS FALSE NEIGHBOUR: 'it returns false'. Refute it at one input. -/
def fnExactTurnedOfWrong : ChangeSpec := { name := "fnExactTurnedOf", fn := fun _ => fun
  | [d] => { results := [.lit (.bool false)], args := [d] }
  | _ => none }
def FnExactTurnedOfWrongFalsely : Prop := fnExactTurnedOfRow.holds Try.pinned (OpenSpec.ofChange fnExactTurnedOfWrong)

/-- 'laws.FnExactTailOf': WHATEVER THE INPUT: true; the input reads as it did. -/
def fnExactTailOfSpec : ChangeSpec := { name := "fnExactTailOf", fn := fun _ => fun
  | [d1, d2] => { results := [.lit (.bool true)], args := [d1, d2] }
  | _ => none }
def fnExactTailOfRow : OpenClaim := { program := "ytlmgboipnngipaa", sum := "34df1558996e0257791000ff2c65df87f71db0afa1c9e1827b61a6d9fe7c4cbe", func := "loop.example/selfmaps/laws.FnExactTailOf", spec := "fnExactTailOf", apart := false }
def FnExactTailOfSaid : Prop := fnExactTailOfRow.holds Try.pinned (OpenSpec.ofChange fnExactTailOfSpec)

/-- ITS FALSE NEIGHBOUR: 'it returns false'. Refute it at one input. -/
def fnExactTailOfWrong : ChangeSpec := { name := "fnExactTailOf", fn := fun _ => fun
  | [d1, d2] => { results := [.lit (.bool false)], args := [d1, d2] }
  | _ => none }
def FnExactTailOfWrongFalsely : Prop := fnExactTailOfRow.holds Try.pinned (OpenSpec.ofChange fnExactTailOfWrong)

/-- 'laws.FnExactOnLoop': WHATEVER THE INPUT: true; the input reads as it did. -/
def fnExactOnLoopSpec : ChangeSpec := { name := "fnExactOnLoop", fn := fun _ => fun
  | [d1, d2] => { results := [.lit (.bool true)], args := [d1, d2] }
  | _ => none }
def fnExactOnLoopRow : OpenClaim := { program := "ytlmgboipnngipaa", sum := "34df1558996e0257791000ff2c65df87f71db0afa1c9e1827b61a6d9fe7c4cbe", func := "loop.example/selfmaps/laws.FnExactOnLoop", spec := "fnExactOnLoop", apart := false }
def FnExactOnLoopSaid : Prop := fnExactOnLoopRow.holds Try.pinned (OpenSpec.ofChange fnExactOnLoopSpec)

/-- ITS FALSE NEIGHBOUR: 'it returns false'. Refute it at one input. -/
def fnExactOnLoopWrong : ChangeSpec := { name := "fnExactOnLoop", fn := fun _ => fun
  | [d1, d2] => { results := [.lit (.bool false)], args := [d1, d2] }
  | _ => none }
def FnExactOnLoopWrongFalsely : Prop := fnExactOnLoopRow.holds Try.pinned (OpenSpec.ofChange fnExactOnLoopWrong)

/-- 'laws.FnSameOf': WHATEVER THE INPUT: true; the input reads as it did. -/
def fnSameOfSpec : ChangeSpec := { name := "fnSameOf", fn := fun _ => fun
  | [d] => { results := [.lit (.bool true)], args := [d] }
  | _ => none }
def fnSameOfRow : OpenClaim := { program := "ytlmgboipnngipaa", sum := "34df1558996e0257791000ff2c65df87f71db0afa1c9e1827b61a6d9fe7c4cbe", func := "loop.example/selfmaps/laws.FnSameOf", spec := "fnSameOf", unfollowed := true, recurses := true, apart := false }
def FnSameOfSaid : Prop := fnSameOfRow.holds Try.pinned (OpenSpec.ofChange fnSameOfSpec)

/-- ITS FALSE NEIGHBOUR: 'it returns false'. Refute it at one input. -/
def fnSameOfWrong : ChangeSpec := { name := "fnSameOf", fn := fun _ => fun
  | [d] => { results := [.lit (.bool false)], args := [d] }
  | _ => none }
def FnSameOfWrongFalsely : Prop := fnSameOfRow.holds Try.pinned (OpenSpec.ofChange fnSameOfWrong)

/-- 'laws.FnLoopsOf': WHATEVER THE INPUT: true; the input reads as it did. -/
def fnLoopsOfSpec : ChangeSpec := { name := "fnLoopsOf", fn := fun _ => fun
  | [d] => { results := [.lit (.bool true)], args := [d] }
  | _ => none }
def fnLoopsOfRow : OpenClaim := { program := "ytlmgboipnngipaa", sum := "34df1558996e0257791000ff2c65df87f71db0afa1c9e1827b61a6d9fe7c4cbe", func := "loop.example/selfmaps/laws.FnLoopsOf", spec := "fnLoopsOf", apart := false }
def FnLoopsOfSaid : Prop := fnLoopsOfRow.holds Try.pinned (OpenSpec.ofChange fnLoopsOfSpec)

/-- ITS FALSE NEIGHBOUR: 'it returns false'. Refute it at one input. -/
def fnLoopsOfWrong : ChangeSpec := { name := "fnLoopsOf", fn := fun _ => fun
  | [d] => { results := [.lit (.bool false)], args := [d] }
  | _ => none }
def FnLoopsOfWrongFalsely : Prop := fnLoopsOfRow.holds Try.pinned (OpenSpec.ofChange fnLoopsOfWrong)

/-- 'laws.FnExactImageOf': WHATEVER THE INPUT: true; the input reads as it did. -/
def fnExactImageOfSpec : ChangeSpec := { name := "fnExactImageOf", fn := fun _ => fun
  | [d] => { results := [.lit (.bool true)], args := [d] }
  | _ => none }
def fnExactImageOfRow : OpenClaim := { program := "ytlmgboipnngipaa", sum := "34df1558996e0257791000ff2c65df87f71db0afa1c9e1827b61a6d9fe7c4cbe", func := "loop.example/selfmaps/laws.FnExactImageOf", spec := "fnExactImageOf", unfollowed := true, recurses := true, apart := false }
def FnExactImageOfSaid : Prop := fnExactImageOfRow.holds Try.pinned (OpenSpec.ofChange fnExactImageOfSpec)

/-- ITS FALSE NEIGHBOUR: 'it returns false'. Refute it at one input. -/
def fnExactImageOfWrong : ChangeSpec := { name := "fnExactImageOf", fn := fun _ => fun
  | [d] => { results := [.lit (.bool false)], args := [d] }
  | _ => none }
def FnExactImageOfWrongFalsely : Prop := fnExactImageOfRow.holds Try.pinned (OpenSpec.ofChange fnExactImageOfWrong)

/-- 'laws.FnExactHighOf': WHATEVER THE INPUT: true; the input reads as it did. -/
def fnExactHighOfSpec : ChangeSpec := { name := "fnExactHighOf", fn := fun _ => fun
  | [d] => { results := [.lit (.bool true)], args := [d] }
  | _ => none }
def fnExactHighOfRow : OpenClaim := { program := "ytlmgboipnngipaa", sum := "34df1558996e0257791000ff2c65df87f71db0afa1c9e1827b61a6d9fe7c4cbe", func := "loop.example/selfmaps/laws.FnExactHighOf", spec := "fnExactHighOf", apart := false }
def FnExactHighOfSaid : Prop := fnExactHighOfRow.holds Try.pinned (OpenSpec.ofChange fnExactHighOfSpec)

/-- ITS FALSE NEIGHBOUR: 'it returns false'. Refute it at one input. -/
def fnExactHighOfWrong : ChangeSpec := { name := "fnExactHighOf", fn := fun _ => fun
  | [d] => { results := [.lit (.bool false)], args := [d] }
  | _ => none }
def FnExactHighOfWrongFalsely : Prop := fnExactHighOfRow.holds Try.pinned (OpenSpec.ofChange fnExactHighOfWrong)

/-- 'laws.FnExactLoopLong': WHATEVER THE INPUT: true; the input reads as it did. -/
def fnExactLoopLongSpec : ChangeSpec := { name := "fnExactLoopLong", fn := fun _ => fun
  | [d1, d2] => { results := [.lit (.bool true)], args := [d1, d2] }
  | _ => none }
def fnExactLoopLongRow : OpenClaim := { program := "ytlmgboipnngipaa", sum := "34df1558996e0257791000ff2c65df87f71db0afa1c9e1827b61a6d9fe7c4cbe", func := "loop.example/selfmaps/laws.FnExactLoopLong", spec := "fnExactLoopLong", apart := false }
def FnExactLoopLongSaid : Prop := fnExactLoopLongRow.holds Try.pinned (OpenSpec.ofChange fnExactLoopLongSpec)

/-- ITS FALSE NEIGHBOUR: 'it returns false'. Refute it at one input. -/
def fnExactLoopLongWrong : ChangeSpec := { name := "fnExactLoopLong", fn := fun _ => fun
  | [d1, d2] => { results := [.lit (.bool false)], args := [d1, d2] }
  | _ => none }
def FnExactLoopLongWrongFalsely : Prop := fnExactLoopLongRow.holds Try.pinned (OpenSpec.ofChange fnExactLoopLongWrong)

/-- 'laws.FnExactIndexOf': WHATEVER THE INPUT: true; the input reads as it did. -/
def fnExactIndexOfSpec : ChangeSpec := { name := "fnExactIndexOf", fn := fun _ => fun
  | [d] => { results := [.lit (.bool true)], args := [d] }
  | _ => none }
def fnExactIndexOfRow : OpenClaim := { program := "ytlmgboipnngipaa", sum := "34df1558996e0257791000ff2c65df87f71db0afa1c9e1827b61a6d9fe7c4cbe", func := "loop.example/selfmaps/laws.FnExactIndexOf", spec := "fnExactIndexOf", apart := false }
def FnExactIndexOfSaid : Prop := fnExactIndexOfRow.holds Try.pinned (OpenSpec.ofChange fnExactIndexOfSpec)

/-- ITS FALSE NEIGHBOUR: 'it returns false'. Refute it at one input. -/
def fnExactIndexOfWrong : ChangeSpec := { name := "fnExactIndexOf", fn := fun _ => fun
  | [d] => { results := [.lit (.bool false)], args := [d] }
  | _ => none }
def FnExactIndexOfWrongFalsely : Prop := fnExactIndexOfRow.holds Try.pinned (OpenSpec.ofChange fnExactIndexOfWrong)

/-- 'laws.FnExactPowerOf': WHATEVER THE INPUT: true; the input reads as it did. -/
def fnExactPowerOfSpec : ChangeSpec := { name := "fnExactPowerOf", fn := fun _ => fun
  | [d1, d2] => { results := [.lit (.bool true)], args := [d1, d2] }
  | _ => none }
def fnExactPowerOfRow : OpenClaim := { program := "ytlmgboipnngipaa", sum := "34df1558996e0257791000ff2c65df87f71db0afa1c9e1827b61a6d9fe7c4cbe", func := "loop.example/selfmaps/laws.FnExactPowerOf", spec := "fnExactPowerOf", recurses := true, apart := false }
def FnExactPowerOfSaid : Prop := fnExactPowerOfRow.holds Try.pinned (OpenSpec.ofChange fnExactPowerOfSpec)

/-- ITS FALSE NEIGHBOUR: 'it returns false'. Refute it at one input. -/
def fnExactPowerOfWrong : ChangeSpec := { name := "fnExactPowerOf", fn := fun _ => fun
  | [d1, d2] => { results := [.lit (.bool false)], args := [d1, d2] }
  | _ => none }
def FnExactPowerOfWrongFalsely : Prop := fnExactPowerOfRow.holds Try.pinned (OpenSpec.ofChange fnExactPowerOfWrong)

/- THE SECOND FORM. 'bulk': how many values and letters a reading holds, each counted each time it is reached (what is shared counts as often as it is met; a slice's spare places count too). A statement '..UptoSaid' is the law's where the arguments, and the package variables that the reading takes, are together of bulk at most 1048576: NARROWER than '..Said'. Prove '..Said' where nothing that the law and all that it calls make is longer than what came in: it says more and counts as full. Else prove '..UptoSaid'. A law counts once. -/
mutual
def uptoBulk {H : Type} : DataW H → Nat
  | .lit (.string bytes) => bytes.length + 1
  | .lit _ => 1
  | .nil => 1
  | .ptr d => uptoBulk d + 1
  | .slice elems spare => uptoBulkAll elems + uptoBulkAll spare + 1
  | .agg parts => uptoBulkAll parts + 1
  | .iface _ d => uptoBulk d + 1
  | .map entries => uptoBulkEntries entries + 1
  | .held _ => 1
def uptoBulkAll {H : Type} : List (DataW H) → Nat
  | [] => 0
  | d :: r => uptoBulk d + uptoBulkAll r
def uptoBulkEntries {H : Type} : List (Lit × DataW H) → Nat
  | [] => 0
  | x :: r => uptoBulkEntry x + uptoBulkEntries r
def uptoBulkEntry {H : Type} : Lit × DataW H → Nat
  | (.string bytes, d) => bytes.length + uptoBulk d + 1
  | (_, d) => uptoBulk d + 1
 end
def uptoSmall : (H : Type) → List (DataW H) → Bool := fun _ ds => decide (uptoBulkAll ds ≤ 1048576)
def OpenSpec.upto (s : _root_.Go.ChangeSpec) : _root_.Go.OpenSpec := { _root_.Go.OpenSpec.ofChange s with cond := some uptoSmall }

/-- 'laws.FnExactAlikeOf', WHERE WHAT IT READS IS OF BULK AT MOST 1048576: true; the input reads as it did. -/
def fnExactAlikeOfUptoRow : OpenClaim := { program := "ytlmgboipnngipaa", sum := "34df1558996e0257791000ff2c65df87f71db0afa1c9e1827b61a6d9fe7c4cbe", func := "loop.example/selfmaps/laws.FnExactAlikeOf", spec := "fnExactAlikeOf", apart := false, narrowed := true }
def FnExactAlikeOfUptoSaid : Prop := fnExactAlikeOfUptoRow.holds Try.pinned (OpenSpec.upto fnExactAlikeOfSpec)

/-- 'laws.FnExactWayFrom', WHERE WHAT IT READS IS OF BULK AT MOST 1048576: true; the input reads as it did. -/
def fnExactWayFromUptoRow : OpenClaim := { program := "ytlmgboipnngipaa", sum := "34df1558996e0257791000ff2c65df87f71db0afa1c9e1827b61a6d9fe7c4cbe", func := "loop.example/selfmaps/laws.FnExactWayFrom", spec := "fnExactWayFrom", apart := false, narrowed := true }
def FnExactWayFromUptoSaid : Prop := fnExactWayFromUptoRow.holds Try.pinned (OpenSpec.upto fnExactWayFromSpec)

/-- 'laws.FnExactTurnedOf', WHERE WHAT IT READS IS OF BULK AT MOST 1048576: true; the input reads as it did. -/
def fnExactTurnedOfUptoRow : OpenClaim := { program := "ytlmgboipnngipaa", sum := "34df1558996e0257791000ff2c65df87f71db0afa1c9e1827b61a6d9fe7c4cbe", func := "loop.example/selfmaps/laws.FnExactTurnedOf", spec := "fnExactTurnedOf", apart := false, narrowed := true }
def FnExactTurnedOfUptoSaid : Prop := fnExactTurnedOfUptoRow.holds Try.pinned (OpenSpec.upto fnExactTurnedOfSpec)

/-- 'laws.FnExactTailOf', WHERE WHAT IT READS IS OF BULK AT MOST 1048576: true; the input reads as it did. -/
def fnExactTailOfUptoRow : OpenClaim := { program := "ytlmgboipnngipaa", sum := "34df1558996e0257791000ff2c65df87f71db0afa1c9e1827b61a6d9fe7c4cbe", func := "loop.example/selfmaps/laws.FnExactTailOf", spec := "fnExactTailOf", apart := false, narrowed := true }
def FnExactTailOfUptoSaid : Prop := fnExactTailOfUptoRow.holds Try.pinned (OpenSpec.upto fnExactTailOfSpec)

/-- 'laws.FnExactOnLoop', WHERE WHAT IT READS IS OF BULK AT MOST 1048576: true; the input reads as it did. -/
def fnExactOnLoopUptoRow : OpenClaim := { program := "ytlmgboipnngipaa", sum := "34df1558996e0257791000ff2c65df87f71db0afa1c9e1827b61a6d9fe7c4cbe", func := "loop.example/selfmaps/laws.FnExactOnLoop", spec := "fnExactOnLoop", apart := false, narrowed := true }
def FnExactOnLoopUptoSaid : Prop := fnExactOnLoopUptoRow.holds Try.pinned (OpenSpec.upto fnExactOnLoopSpec)

/-- 'laws.FnSameOf', WHERE WHAT IT READS IS OF BULK AT MOST 1048576: true; the input reads as it did. -/
def fnSameOfUptoRow : OpenClaim := { program := "ytlmgboipnngipaa", sum := "34df1558996e0257791000ff2c65df87f71db0afa1c9e1827b61a6d9fe7c4cbe", func := "loop.example/selfmaps/laws.FnSameOf", spec := "fnSameOf", unfollowed := true, recurses := true, apart := false, narrowed := true }
def FnSameOfUptoSaid : Prop := fnSameOfUptoRow.holds Try.pinned (OpenSpec.upto fnSameOfSpec)

/-- 'laws.FnLoopsOf', WHERE WHAT IT READS IS OF BULK AT MOST 1048576: true; the input reads as it did. -/
def fnLoopsOfUptoRow : OpenClaim := { program := "ytlmgboipnngipaa", sum := "34df1558996e0257791000ff2c65df87f71db0afa1c9e1827b61a6d9fe7c4cbe", func := "loop.example/selfmaps/laws.FnLoopsOf", spec := "fnLoopsOf", apart := false, narrowed := true }
def FnLoopsOfUptoSaid : Prop := fnLoopsOfUptoRow.holds Try.pinned (OpenSpec.upto fnLoopsOfSpec)

/-- 'laws.FnExactImageOf', WHERE WHAT IT READS IS OF BULK AT MOST 1048576: true; the input reads as it did. -/
def fnExactImageOfUptoRow : OpenClaim := { program := "ytlmgboipnngipaa", sum := "34df1558996e0257791000ff2c65df87f71db0afa1c9e1827b61a6d9fe7c4cbe", func := "loop.example/selfmaps/laws.FnExactImageOf", spec := "fnExactImageOf", unfollowed := true, recurses := true, apart := false, narrowed := true }
def FnExactImageOfUptoSaid : Prop := fnExactImageOfUptoRow.holds Try.pinned (OpenSpec.upto fnExactImageOfSpec)

/-- 'laws.FnExactHighOf', WHERE WHAT IT READS IS OF BULK AT MOST 1048576: true; the input reads as it did. -/
def fnExactHighOfUptoRow : OpenClaim := { program := "ytlmgboipnngipaa", sum := "34df1558996e0257791000ff2c65df87f71db0afa1c9e1827b61a6d9fe7c4cbe", func := "loop.example/selfmaps/laws.FnExactHighOf", spec := "fnExactHighOf", apart := false, narrowed := true }
def FnExactHighOfUptoSaid : Prop := fnExactHighOfUptoRow.holds Try.pinned (OpenSpec.upto fnExactHighOfSpec)

/-- 'laws.FnExactLoopLong', WHERE WHAT IT READS IS OF BULK AT MOST 1048576: true; the input reads as it did. -/
def fnExactLoopLongUptoRow : OpenClaim := { program := "ytlmgboipnngipaa", sum := "34df1558996e0257791000ff2c65df87f71db0afa1c9e1827b61a6d9fe7c4cbe", func := "loop.example/selfmaps/laws.FnExactLoopLong", spec := "fnExactLoopLong", apart := false, narrowed := true }
def FnExactLoopLongUptoSaid : Prop := fnExactLoopLongUptoRow.holds Try.pinned (OpenSpec.upto fnExactLoopLongSpec)

/-- 'laws.FnExactIndexOf', WHERE WHAT IT READS IS OF BULK AT MOST 1048576: true; the input reads as it did. -/
def fnExactIndexOfUptoRow : OpenClaim := { program := "ytlmgboipnngipaa", sum := "34df1558996e0257791000ff2c65df87f71db0afa1c9e1827b61a6d9fe7c4cbe", func := "loop.example/selfmaps/laws.FnExactIndexOf", spec := "fnExactIndexOf", apart := false, narrowed := true }
def FnExactIndexOfUptoSaid : Prop := fnExactIndexOfUptoRow.holds Try.pinned (OpenSpec.upto fnExactIndexOfSpec)

/-- 'laws.FnExactPowerOf', WHERE WHAT IT READS IS OF BULK AT MOST 1048576: true; the input reads as it did. -/
def fnExactPowerOfUptoRow : OpenClaim := { program := "ytlmgboipnngipaa", sum := "34df1558996e0257791000ff2c65df87f71db0afa1c9e1827b61a6d9fe7c4cbe", func := "loop.example/selfmaps/laws.FnExactPowerOf", spec := "fnExactPowerOf", recurses := true, apart := false, narrowed := true }
def FnExactPowerOfUptoSaid : Prop := fnExactPowerOfUptoRow.holds Try.pinned (OpenSpec.upto fnExactPowerOfSpec)

end Rows
end Go.Proofs.Ytlmgboipnngipaa
