/-
  No cell of these rows narrows 'for every input' (looked for: loops, veiled, ifaces, maps, wideKeys, modest, calm, conditions, laid).
  DERIVED. THE GIVEN ROWS OF THIS SEAT. 12 by the template 'for every input the law returns true; each argument reads behind the call as it read before'; 0 by the template 'total and deterministic' (their statements: YtkgafapghdjhlaaTotals.lean).
  GIVEN WITH THE SEED: the statements are not yours to turn. If you find one false, say at which input.
  Laid BY PROGRAM, IN A SANDBOX (cutbox-rows.mjs): the forced cells as the released guide's own fill.sh prints them over the translation e69c1bc25b0f5a17… (all of the seat's roots in one cut). By AI agents, Wed Nov 11 2026. No macro, syntax, notation, axiom, sorry.
-/
import Derived.Test.YtkgafapghdjhlaaChecked
import GoSem.Claim
import GoSem.ClaimJoined
import GoSem.ClaimMapViews
import Derived.JoinedTies
import Derived.KernelRfl
namespace Go.Proofs.Ytkgafapghdjhlaa
/- THE CELL 'sum', in the pinned program and in every row, IS THE sha256 OF THE DUMP (.gsa) THAT YtkgafapghdjhlaaProg.lean LOADS. Nothing in Lean hashes anything: it is a label: what it is worth is what the hold of that sum in a sandbox is worth. -/
noncomputable def Try.pinned : Pinned := { name := "ytkgafapghdjhlaa", sum := "e69c1bc25b0f5a1773dd8d686a918c288e9a314ee5282bd1168b8c8a7dcfb85a", checked := Try.checked }
namespace Rows
def none {H : Type} : Left H := { results := [], args := [] }

/-- 'laws.FnExactLoopOf': WHATEVER THE INPUT: true; the input reads as it did. -/
def fnExactLoopOfSpec : ChangeSpec := { name := "fnExactLoopOf", fn := fun _ => fun
  | [d1, d2] => { results := [.lit (.bool true)], args := [d1, d2] }
  | _ => none }
def fnExactLoopOfRow : OpenClaim := { program := "ytkgafapghdjhlaa", sum := "e69c1bc25b0f5a1773dd8d686a918c288e9a314ee5282bd1168b8c8a7dcfb85a", func := "loop.example/selfmaps/laws.FnExactLoopOf", spec := "fnExactLoopOf", apart := false }
def FnExactLoopOfSaid : Prop := fnExactLoopOfRow.holds Try.pinned (OpenSpec.ofChange fnExactLoopOfSpec)

/-- ITS FALSE NEIGHBOUR: 'it returns false'. Refute it at one input. -/
def fnExactLoopOfWrong : ChangeSpec := { name := "fnExactLoopOf", fn := fun _ => fun
  | [d1, d2] => { results := [.lit (.bool false)], args := [d1, d2] }
  | _ => none }
def FnExactLoopOfWrongFalsely : Prop := fnExactLoopOfRow.holds Try.pinned (OpenSpec.ofChange fnExactLoopOfWrong)

/-- 'laws.FnExactStepsOf': WHATEVER THE INPUT: true; the input reads as it did. -/
def fnExactStepsOfSpec : ChangeSpec := { name := "fnExactStepsOf", fn := fun _ => fun
  | [d1, d2, d3] => { results := [.lit (.bool true)], args := [d1, d2, d3] }
  | _ => none }
def fnExactStepsOfRow : OpenClaim := { program := "ytkgafapghdjhlaa", sum := "e69c1bc25b0f5a1773dd8d686a918c288e9a314ee5282bd1168b8c8a7dcfb85a", func := "loop.example/selfmaps/laws.FnExactStepsOf", spec := "fnExactStepsOf", apart := false }
def FnExactStepsOfSaid : Prop := fnExactStepsOfRow.holds Try.pinned (OpenSpec.ofChange fnExactStepsOfSpec)

/-- ITS FALSE NEIGHBOUR: 'it returns false'. Refute it at one input. -/
def fnExactStepsOfWrong : ChangeSpec := { name := "fnExactStepsOf", fn := fun _ => fun
  | [d1, d2, d3] => { results := [.lit (.bool false)], args := [d1, d2, d3] }
  | _ => none }
def FnExactStepsOfWrongFalsely : Prop := fnExactStepsOfRow.holds Try.pinned (OpenSpec.ofChange fnExactStepsOfWrong)

/-- 'laws.FnMapText': WHATEVER THE INPUT: true; the input reads as it did. -/
def fnMapTextSpec : ChangeSpec := { name := "fnMapText", fn := fun _ => fun
  | [d] => { results := [.lit (.bool true)], args := [d] }
  | _ => none }
def fnMapTextRow : OpenClaim := { program := "ytkgafapghdjhlaa", sum := "e69c1bc25b0f5a1773dd8d686a918c288e9a314ee5282bd1168b8c8a7dcfb85a", func := "loop.example/selfmaps/laws.FnMapText", spec := "fnMapText", recurses := true, apart := false }
def FnMapTextSaid : Prop := fnMapTextRow.holds Try.pinned (OpenSpec.ofChange fnMapTextSpec)

/-- ITS FALSE NEIGHBOUR: 'it returns false'. Refute it at one input. -/
def fnMapTextWrong : ChangeSpec := { name := "fnMapText", fn := fun _ => fun
  | [d] => { results := [.lit (.bool false)], args := [d] }
  | _ => none }
def FnMapTextWrongFalsely : Prop := fnMapTextRow.holds Try.pinned (OpenSpec.ofChange fnMapTextWrong)

/-- 'laws.FnExactByPowers': WHATEVER THE INPUT: true; the input reads as it did. -/
def fnExactByPowersSpec : ChangeSpec := { name := "fnExactByPowers", fn := fun _ => fun
  | [d1, d2] => { results := [.lit (.bool true)], args := [d1, d2] }
  | _ => none }
def fnExactByPowersRow : OpenClaim := { program := "ytkgafapghdjhlaa", sum := "e69c1bc25b0f5a1773dd8d686a918c288e9a314ee5282bd1168b8c8a7dcfb85a", func := "loop.example/selfmaps/laws.FnExactByPowers", spec := "fnExactByPowers", unfollowed := true, recurses := true, apart := false }
def FnExactByPowersSaid : Prop := fnExactByPowersRow.holds Try.pinned (OpenSpec.ofChange fnExactByPowersSpec)

/-- ITS FALSE NEIGHBOUR: 'it returns false'. Refute it at one input. -/
def fnExactByPowersWrong : ChangeSpec := { name := "fnExactByPowers", fn := fun _ => fun
  | [d1, d2] => { results := [.lit (.bool false)], args := [d1, d2] }
  | _ => none }
def FnExactByPowersWrongFalsely : Prop := fnExactByPowersRow.holds Try.pinned (OpenSpec.ofChange fnExactByPowersWrong)

/-- 'laws.FnFromOf': WHATEVER THE INPUT: true; the input reads as it did. -/
def fnFromOfSpec : ChangeSpec := { name := "fnFromOf", fn := fun _ => fun
  | [d] => { results := [.lit (.bool true)], args := [d] }
  | _ => none }
def fnFromOfRow : OpenClaim := { program := "ytkgafapghdjhlaa", sum := "e69c1bc25b0f5a1773dd8d686a918c288e9a314ee5282bd1168b8c8a7dcfb85a", func := "loop.example/selfmaps/laws.FnFromOf", spec := "fnFromOf", unfollowed := true, recurses := true, apart := false }
def FnFromOfSaid : Prop := fnFromOfRow.holds Try.pinned (OpenSpec.ofChange fnFromOfSpec)

/-- ITS FALSE NEIGHBOUR: 'it returns false'. Refute it at one input. -/
def fnFromOfWrong : ChangeSpec := { name := "fnFromOf", fn := fun _ => fun
  | [d] => { results := [.lit (.bool false)], args := [d] }
  | _ => none }
def FnFromOfWrongFalsely : Prop := fnFromOfRow.holds Try.pinned (OpenSpec.ofChange fnFromOfWrong)

/-- 'laws.FnTailOf': WHATEVER THE INPUT: true; the input reads as it did. -/
def fnTailOfSpec : ChangeSpec := { name := "fnTailOf", fn := fun _ => fun
  | [d] => { results := [.lit (.bool true)], args := [d] }
  | _ => none }
def fnTailOfRow : OpenClaim := { program := "ytkgafapghdjhlaa", sum := "e69c1bc25b0f5a1773dd8d686a918c288e9a314ee5282bd1168b8c8a7dcfb85a", func := "loop.example/selfmaps/laws.FnTailOf", spec := "fnTailOf", apart := false }
def FnTailOfSaid : Prop := fnTailOfRow.holds Try.pinned (OpenSpec.ofChange fnTailOfSpec)

/-- ITS FALSE NEIGHBOUR: 'it returns false'. Refute it at one input. -/
def fnTailOfWrong : ChangeSpec := { name := "fnTailOf", fn := fun _ => fun
  | [d] => { results := [.lit (.bool false)], args := [d] }
  | _ => none }
def FnTailOfWrongFalsely : Prop := fnTailOfRow.holds Try.pinned (OpenSpec.ofChange fnTailOfWrong)

/-- 'laws.FnWayFrom': WHATEVER THE INPUT: true; the input reads as it did. -/
def fnWayFromSpec : ChangeSpec := { name := "fnWayFrom", fn := fun _ => fun
  | [d] => { results := [.lit (.bool true)], args := [d] }
  | _ => none }
def fnWayFromRow : OpenClaim := { program := "ytkgafapghdjhlaa", sum := "e69c1bc25b0f5a1773dd8d686a918c288e9a314ee5282bd1168b8c8a7dcfb85a", func := "loop.example/selfmaps/laws.FnWayFrom", spec := "fnWayFrom", apart := false }
def FnWayFromSaid : Prop := fnWayFromRow.holds Try.pinned (OpenSpec.ofChange fnWayFromSpec)

/-- ITS FALSE NEIGHBOUR: 'it returns false'. Refute it at one input. -/
def fnWayFromWrong : ChangeSpec := { name := "fnWayFrom", fn := fun _ => fun
  | [d] => { results := [.lit (.bool false)], args := [d] }
  | _ => none }
def FnWayFromWrongFalsely : Prop := fnWayFromRow.holds Try.pinned (OpenSpec.ofChange fnWayFromWrong)

/-- 'laws.FnExactByTwo': WHATEVER THE INPUT: true; the input reads as it did. -/
def fnExactByTwoSpec : ChangeSpec := { name := "fnExactByTwo", fn := fun _ => fun
  | [d1, d2] => { results := [.lit (.bool true)], args := [d1, d2] }
  | _ => none }
def fnExactByTwoRow : OpenClaim := { program := "ytkgafapghdjhlaa", sum := "e69c1bc25b0f5a1773dd8d686a918c288e9a314ee5282bd1168b8c8a7dcfb85a", func := "loop.example/selfmaps/laws.FnExactByTwo", spec := "fnExactByTwo", unfollowed := true, recurses := true, apart := false }
def FnExactByTwoSaid : Prop := fnExactByTwoRow.holds Try.pinned (OpenSpec.ofChange fnExactByTwoSpec)

/-- ITS FALSE NEIGHBOUR: 'it returns false'. Refute it at one input. -/
def fnExactByTwoWrong : ChangeSpec := { name := "fnExactByTwo", fn := fun _ => fun
  | [d1, d2] => { results := [.lit (.bool false)], args := [d1, d2] }
  | _ => none }
def FnExactByTwoWrongFalsely : Prop := fnExactByTwoRow.holds Try.pinned (OpenSpec.ofChange fnExactByTwoWrong)

/-- 'laws.FnOnLoop': WHATEVER THE INPUT: true; the input reads as it did. -/
def fnOnLoopSpec : ChangeSpec := { name := "fnOnLoop", fn := fun _ => fun
  | [d] => { results := [.lit (.bool true)], args := [d] }
  | _ => none }
def fnOnLoopRow : OpenClaim := { program := "ytkgafapghdjhlaa", sum := "e69c1bc25b0f5a1773dd8d686a918c288e9a314ee5282bd1168b8c8a7dcfb85a", func := "loop.example/selfmaps/laws.FnOnLoop", spec := "fnOnLoop", apart := false }
def FnOnLoopSaid : Prop := fnOnLoopRow.holds Try.pinned (OpenSpec.ofChange fnOnLoopSpec)

/-- ITS FALSE NEIGHBOUR: 'it returns false'. Refute it at one input. -/
def fnOnLoopWrong : ChangeSpec := { name := "fnOnLoop", fn := fun _ => fun
  | [d] => { results := [.lit (.bool false)], args := [d] }
  | _ => none }
def FnOnLoopWrongFalsely : Prop := fnOnLoopRow.holds Try.pinned (OpenSpec.ofChange fnOnLoopWrong)

/-- 'laws.FnReadMap': WHATEVER THE INPUT: true; the input reads as it did. -/
def fnReadMapSpec : ChangeSpec := { name := "fnReadMap", fn := fun _ => fun
  | [d] => { results := [.lit (.bool true)], args := [d] }
  | _ => none }
def fnReadMapRow : OpenClaim := { program := "ytkgafapghdjhlaa", sum := "e69c1bc25b0f5a1773dd8d686a918c288e9a314ee5282bd1168b8c8a7dcfb85a", func := "loop.example/selfmaps/laws.FnReadMap", spec := "fnReadMap", recurses := true, apart := false }
def FnReadMapSaid : Prop := fnReadMapRow.holds Try.pinned (OpenSpec.ofChange fnReadMapSpec)

/-- ITS FALSE NEIGHBOUR: 'it returns false'. Refute it at one input. -/
def fnReadMapWrong : ChangeSpec := { name := "fnReadMap", fn := fun _ => fun
  | [d] => { results := [.lit (.bool false)], args := [d] }
  | _ => none }
def FnReadMapWrongFalsely : Prop := fnReadMapRow.holds Try.pinned (OpenSpec.ofChange fnReadMapWrong)

/-- 'laws.FnAlikeOf': WHATEVER THE INPUT: true; the input reads as it did. -/
def fnAlikeOfSpec : ChangeSpec := { name := "fnAlikeOf", fn := fun _ => fun
  | [d] => { results := [.lit (.bool true)], args := [d] }
  | _ => none }
def fnAlikeOfRow : OpenClaim := { program := "ytkgafapghdjhlaa", sum := "e69c1bc25b0f5a1773dd8d686a918c288e9a314ee5282bd1168b8c8a7dcfb85a", func := "loop.example/selfmaps/laws.FnAlikeOf", spec := "fnAlikeOf", unfollowed := true, recurses := true, apart := false }
def FnAlikeOfSaid : Prop := fnAlikeOfRow.holds Try.pinned (OpenSpec.ofChange fnAlikeOfSpec)

/-- ITS FALSE NEIGHBOUR: 'it returns false'. Refute it at one input. -/
def fnAlikeOfWrong : ChangeSpec := { name := "fnAlikeOf", fn := fun _ => fun
  | [d] => { results := [.lit (.bool false)], args := [d] }
  | _ => none }
def FnAlikeOfWrongFalsely : Prop := fnAlikeOfRow.holds Try.pinned (OpenSpec.ofChange fnAlikeOfWrong)

/-- 'laws.FnLoopLong': WHATEVER THE INPUT: true; the input reads as it did. -/
def fnLoopLongSpec : ChangeSpec := { name := "fnLoopLong", fn := fun _ => fun
  | [d] => { results := [.lit (.bool true)], args := [d] }
  | _ => none }
def fnLoopLongRow : OpenClaim := { program := "ytkgafapghdjhlaa", sum := "e69c1bc25b0f5a1773dd8d686a918c288e9a314ee5282bd1168b8c8a7dcfb85a", func := "loop.example/selfmaps/laws.FnLoopLong", spec := "fnLoopLong", apart := false }
def FnLoopLongSaid : Prop := fnLoopLongRow.holds Try.pinned (OpenSpec.ofChange fnLoopLongSpec)

/-- ITS FALSE NEIGHBOUR: 'it returns false'. Refute it at one input. -/
def fnLoopLongWrong : ChangeSpec := { name := "fnLoopLong", fn := fun _ => fun
  | [d] => { results := [.lit (.bool false)], args := [d] }
  | _ => none }
def FnLoopLongWrongFalsely : Prop := fnLoopLongRow.holds Try.pinned (OpenSpec.ofChange fnLoopLongWrong)

/- THE SECOND FORM. 'bulk': how many values and letters a reading holds, each counted each time it is reached (what is shared counts as often as it is met; a slice's spare places count too). A statement '..UptoSaid' is the law's where the arguments, and the package variables that the reading takes, are together of bulk at most 1048576: NARROWER than '..Said'. Prove '..Said' where nothing that the law and all that it calls make is longer than what came in: it says more and counts as full. Else prove '..UptoSaid'. A law counts once. -/
mutual
def uptoBulk {H : Type} : DataW H → Nat
  | .lit (.string bytes) => bytes.length + 1
  | .lit _ => 1
  | .nil => 1
  | .ptr d => uptoBulk d + 1
  | .slice elems spare => uptoBulkAll elems + uptoBulkAll spare + 1
  | .agg parts => uptoBulkAll parts + 1
  | .iface _ d => uptoBulk d + 1
  | .map entries => uptoBulkEntries entries + 1
  | .held _ => 1
def uptoBulkAll {H : Type} : List (DataW H) → Nat
  | [] => 0
  | d :: r => uptoBulk d + uptoBulkAll r
def uptoBulkEntries {H : Type} : List (Lit × DataW H) → Nat
  | [] => 0
  | x :: r => uptoBulkEntry x + uptoBulkEntries r
def uptoBulkEntry {H : Type} : Lit × DataW H → Nat
  | (.string bytes, d) => bytes.length + uptoBulk d + 1
  | (_, d) => uptoBulk d + 1
 end
def uptoSmall : (H : Type) → List (DataW H) → Bool := fun _ ds => decide (uptoBulkAll ds ≤ 1048576)
def OpenSpec.upto (s : _root_.Go.ChangeSpec) : _root_.Go.OpenSpec := { _root_.Go.OpenSpec.ofChange s with cond := some uptoSmall }

/-- 'laws.FnExactLoopOf', WHERE WHAT IT READS IS OF BULK AT MOST 1048576: true; the input reads as it did. -/
def fnExactLoopOfUptoRow : OpenClaim := { program := "ytkgafapghdjhlaa", sum := "e69c1bc25b0f5a1773dd8d686a918c288e9a314ee5282bd1168b8c8a7dcfb85a", func := "loop.example/selfmaps/laws.FnExactLoopOf", spec := "fnExactLoopOf", apart := false, narrowed := true }
def FnExactLoopOfUptoSaid : Prop := fnExactLoopOfUptoRow.holds Try.pinned (OpenSpec.upto fnExactLoopOfSpec)

/-- 'laws.FnExactStepsOf', WHERE WHAT IT READS IS OF BULK AT MOST 1048576: true; the input reads as it did. -/
def fnExactStepsOfUptoRow : OpenClaim := { program := "ytkgafapghdjhlaa", sum := "e69c1bc25b0f5a1773dd8d686a918c288e9a314ee5282bd1168b8c8a7dcfb85a", func := "loop.example/selfmaps/laws.FnExactStepsOf", spec := "fnExactStepsOf", apart := false, narrowed := true }
def FnExactStepsOfUptoSaid : Prop := fnExactStepsOfUptoRow.holds Try.pinned (OpenSpec.upto fnExactStepsOfSpec)

/-- 'laws.FnMapText', WHERE WHAT IT READS IS OF BULK AT MOST 1048576: true; the input reads as it did. -/
def fnMapTextUptoRow : OpenClaim := { program := "ytkgafapghdjhlaa", sum := "e69c1bc25b0f5a1773dd8d686a918c288e9a314ee5282bd1168b8c8a7dcfb85a", func := "loop.example/selfmaps/laws.FnMapText", spec := "fnMapText", recurses := true, apart := false, narrowed := true }
def FnMapTextUptoSaid : Prop := fnMapTextUptoRow.holds Try.pinned (OpenSpec.upto fnMapTextSpec)

/-- 'laws.FnExactByPowers', WHERE WHAT IT READS IS OF BULK AT MOST 1048576: true; the input reads as it did. -/
def fnExactByPowersUptoRow : OpenClaim := { program := "ytkgafapghdjhlaa", sum := "e69c1bc25b0f5a1773dd8d686a918c288e9a314ee5282bd1168b8c8a7dcfb85a", func := "loop.example/selfmaps/laws.FnExactByPowers", spec := "fnExactByPowers", unfollowed := true, recurses := true, apart := false, narrowed := true }
def FnExactByPowersUptoSaid : Prop := fnExactByPowersUptoRow.holds Try.pinned (OpenSpec.upto fnExactByPowersSpec)

/-- 'laws.FnFromOf', WHERE WHAT IT READS IS OF BULK AT MOST 1048576: true; the input reads as it did. -/
def fnFromOfUptoRow : OpenClaim := { program := "ytkgafapghdjhlaa", sum := "e69c1bc25b0f5a1773dd8d686a918c288e9a314ee5282bd1168b8c8a7dcfb85a", func := "loop.example/selfmaps/laws.FnFromOf", spec := "fnFromOf", unfollowed := true, recurses := true, apart := false, narrowed := true }
def FnFromOfUptoSaid : Prop := fnFromOfUptoRow.holds Try.pinned (OpenSpec.upto fnFromOfSpec)

/-- 'laws.FnTailOf', WHERE WHAT IT READS IS OF BULK AT MOST 1048576: true; the input reads as it did. -/
def fnTailOfUptoRow : OpenClaim := { program := "ytkgafapghdjhlaa", sum := "e69c1bc25b0f5a1773dd8d686a918c288e9a314ee5282bd1168b8c8a7dcfb85a", func := "loop.example/selfmaps/laws.FnTailOf", spec := "fnTailOf", apart := false, narrowed := true }
def FnTailOfUptoSaid : Prop := fnTailOfUptoRow.holds Try.pinned (OpenSpec.upto fnTailOfSpec)

/-- 'laws.FnWayFrom', WHERE WHAT IT READS IS OF BULK AT MOST 1048576: true; the input reads as it did. -/
def fnWayFromUptoRow : OpenClaim := { program := "ytkgafapghdjhlaa", sum := "e69c1bc25b0f5a1773dd8d686a918c288e9a314ee5282bd1168b8c8a7dcfb85a", func := "loop.example/selfmaps/laws.FnWayFrom", spec := "fnWayFrom", apart := false, narrowed := true }
def FnWayFromUptoSaid : Prop := fnWayFromUptoRow.holds Try.pinned (OpenSpec.upto fnWayFromSpec)

/-- 'laws.FnExactByTwo', WHERE WHAT IT READS IS OF BULK AT MOST 1048576: true; the input reads as it did. -/
def fnExactByTwoUptoRow : OpenClaim := { program := "ytkgafapghdjhlaa", sum := "e69c1bc25b0f5a1773dd8d686a918c288e9a314ee5282bd1168b8c8a7dcfb85a", func := "loop.example/selfmaps/laws.FnExactByTwo", spec := "fnExactByTwo", unfollowed := true, recurses := true, apart := false, narrowed := true }
def FnExactByTwoUptoSaid : Prop := fnExactByTwoUptoRow.holds Try.pinned (OpenSpec.upto fnExactByTwoSpec)

/-- 'laws.FnOnLoop', WHERE WHAT IT READS IS OF BULK AT MOST 1048576: true; the input reads as it did. -/
def fnOnLoopUptoRow : OpenClaim := { program := "ytkgafapghdjhlaa", sum := "e69c1bc25b0f5a1773dd8d686a918c288e9a314ee5282bd1168b8c8a7dcfb85a", func := "loop.example/selfmaps/laws.FnOnLoop", spec := "fnOnLoop", apart := false, narrowed := true }
def FnOnLoopUptoSaid : Prop := fnOnLoopUptoRow.holds Try.pinned (OpenSpec.upto fnOnLoopSpec)

/-- 'laws.FnReadMap', WHERE WHAT IT READS IS OF BULK AT MOST 1048576: true; the input reads as it did. -/
def fnReadMapUptoRow : OpenClaim := { program := "ytkgafapghdjhlaa", sum := "e69c1bc25b0f5a1773dd8d686a918c288e9a314ee5282bd1168b8c8a7dcfb85a", func := "loop.example/selfmaps/laws.FnReadMap", spec := "fnReadMap", recurses := true, apart := false, narrowed := true }
def FnReadMapUptoSaid : Prop := fnReadMapUptoRow.holds Try.pinned (OpenSpec.upto fnReadMapSpec)

/-- 'laws.FnAlikeOf', WHERE WHAT IT READS IS OF BULK AT MOST 1048576: true; the input reads as it did. -/
def fnAlikeOfUptoRow : OpenClaim := { program := "ytkgafapghdjhlaa", sum := "e69c1bc25b0f5a1773dd8d686a918c288e9a314ee5282bd1168b8c8a7dcfb85a", func := "loop.example/selfmaps/laws.FnAlikeOf", spec := "fnAlikeOf", unfollowed := true, recurses := true, apart := false, narrowed := true }
def FnAlikeOfUptoSaid : Prop := fnAlikeOfUptoRow.holds Try.pinned (OpenSpec.upto fnAlikeOfSpec)

/-- 'laws.FnLoopLong', WHERE WHAT IT READS IS OF BULK AT MOST 1048576: true; the input reads as it did. -/
def fnLoopLongUptoRow : OpenClaim := { program := "ytkgafapghdjhlaa", sum := "e69c1bc25b0f5a1773dd8d686a918c288e9a314ee5282bd1168b8c8a7dcfb85a", func := "loop.example/selfmaps/laws.FnLoopLong", spec := "fnLoopLong", apart := false, narrowed := true }
def FnLoopLongUptoSaid : Prop := fnLoopLongUptoRow.holds Try.pinned (OpenSpec.upto fnLoopLongSpec)

end Rows
end Go.Proofs.Ytkgafapghdjhlaa
