/-
  No cell of these rows narrows 'for every input' (looked for: loops, veiled, ifaces, maps, wideKeys, modest, calm, conditions, laid).
  DERIVED. THE GIVEN ROWS OF THIS SEAT. 13 by the template 'for every input the law returns true; each argument reads behind the call as it read before'; 0 by the template 'total and deterministic' (their statements: YtdhgnbfkcpaohaaTotals.lean).
  GIVEN WITH THE SEED: the statements are not yours to turn. If you find one false, say at which input.
  Laid BY PROGRAM, IN A SANDBOX (cutbox-rows.mjs): the forced cells as the released guide's own fill.sh prints them over the translation 7c4407a0d06b7824… (all of the seat's roots in one cut). By AI agents, Wed Nov 11 2026. No macro, syntax, notation, axiom, sorry.
-/
import Derived.Test.YtdhgnbfkcpaohaaChecked
import GoSem.Claim
import GoSem.ClaimJoined
import GoSem.ClaimMapViews
import Derived.JoinedTies
import Derived.KernelRfl
namespace Go.Proofs.Ytdhgnbfkcpaohaa
/- THE CELL 'sum', in the pinned program and in every row, IS THE sha256 OF THE DUMP (.gsa) THAT YtdhgnbfkcpaohaaProg.lean LOADS. Nothing in Lean hashes anything: it is a label: what it is worth is what the hold of that sum in a sandbox is worth. -/
noncomputable def Try.pinned : Pinned := { name := "ytdhgnbfkcpaohaa", sum := "7c4407a0d06b7824b045c55e583c6355305c23eca5c28f78bef6fdd42c69e657", checked := Try.checked }
namespace Rows
def none {H : Type} : Left H := { results := [], args := [] }

/-- 'laws.FnExactLotsOf': WHATEVER THE INPUT: true; the input reads as it did. -/
def fnExactLotsOfSpec : ChangeSpec := { name := "fnExactLotsOf", fn := fun _ => fun
  | [d] => { results := [.lit (.bool true)], args := [d] }
  | _ => none }
def fnExactLotsOfRow : OpenClaim := { program := "ytdhgnbfkcpaohaa", sum := "7c4407a0d06b7824b045c55e583c6355305c23eca5c28f78bef6fdd42c69e657", func := "loop.example/selfmaps/laws.FnExactLotsOf", spec := "fnExactLotsOf", apart := false }
def FnExactLotsOfSaid : Prop := fnExactLotsOfRow.holds Try.pinned (OpenSpec.ofChange fnExactLotsOfSpec)

/-- ITS FALSE NEIGHBOUR: 'it returns false'. Refute it at one input. -/
def fnExactLotsOfWrong : ChangeSpec := { name := "fnExactLotsOf", fn := fun _ => fun
  | [d] => { results := [.lit (.bool false)], args := [d] }
  | _ => none }
def FnExactLotsOfWrongFalsely : Prop := fnExactLotsOfRow.holds Try.pinned (OpenSpec.ofChange fnExactLotsOfWrong)

/-- 'laws.FnHighOf': WHATEVER THE INPUT: true; the input reads as it did. -/
def fnHighOfSpec : ChangeSpec := { name := "fnHighOf", fn := fun _ => fun
  | [d] => { results := [.lit (.bool true)], args := [d] }
  | _ => none }
def fnHighOfRow : OpenClaim := { program := "ytdhgnbfkcpaohaa", sum := "7c4407a0d06b7824b045c55e583c6355305c23eca5c28f78bef6fdd42c69e657", func := "loop.example/selfmaps/laws.FnHighOf", spec := "fnHighOf", apart := false }
def FnHighOfSaid : Prop := fnHighOfRow.holds Try.pinned (OpenSpec.ofChange fnHighOfSpec)

/-- ITS FALSE NEIGHBOUR: 'it returns false'. Refute it at one input. -/
def fnHighOfWrong : ChangeSpec := { name := "fnHighOf", fn := fun _ => fun
  | [d] => { results := [.lit (.bool false)], args := [d] }
  | _ => none }
def FnHighOfWrongFalsely : Prop := fnHighOfRow.holds Try.pinned (OpenSpec.ofChange fnHighOfWrong)

/-- 'laws.FnBehindOf': WHATEVER THE INPUT: true; the input reads as it did. -/
def fnBehindOfSpec : ChangeSpec := { name := "fnBehindOf", fn := fun _ => fun
  | [d1, d2] => { results := [.lit (.bool true)], args := [d1, d2] }
  | _ => none }
def fnBehindOfRow : OpenClaim := { program := "ytdhgnbfkcpaohaa", sum := "7c4407a0d06b7824b045c55e583c6355305c23eca5c28f78bef6fdd42c69e657", func := "loop.example/selfmaps/laws.FnBehindOf", spec := "fnBehindOf", unfollowed := true, recurses := true, apart := false }
def FnBehindOfSaid : Prop := fnBehindOfRow.holds Try.pinned (OpenSpec.ofChange fnBehindOfSpec)

/-- ITS FALSE NEIGHBOUR: 'it returns false'. Refute it at one input. -/
def fnBehindOfWrong : ChangeSpec := { name := "fnBehindOf", fn := fun _ => fun
  | [d1, d2] => { results := [.lit (.bool false)], args := [d1, d2] }
  | _ => none }
def FnBehindOfWrongFalsely : Prop := fnBehindOfRow.holds Try.pinned (OpenSpec.ofChange fnBehindOfWrong)

/-- 'laws.FnImageOf': WHATEVER THE INPUT: true; the input reads as it did. -/
def fnImageOfSpec : ChangeSpec := { name := "fnImageOf", fn := fun _ => fun
  | [d] => { results := [.lit (.bool true)], args := [d] }
  | _ => none }
def fnImageOfRow : OpenClaim := { program := "ytdhgnbfkcpaohaa", sum := "7c4407a0d06b7824b045c55e583c6355305c23eca5c28f78bef6fdd42c69e657", func := "loop.example/selfmaps/laws.FnImageOf", spec := "fnImageOf", unfollowed := true, recurses := true, apart := false }
def FnImageOfSaid : Prop := fnImageOfRow.holds Try.pinned (OpenSpec.ofChange fnImageOfSpec)

/-- ITS FALSE NEIGHBOUR: 'it returns false'. Refute it at one input. -/
def fnImageOfWrong : ChangeSpec := { name := "fnImageOf", fn := fun _ => fun
  | [d] => { results := [.lit (.bool false)], args := [d] }
  | _ => none }
def FnImageOfWrongFalsely : Prop := fnImageOfRow.holds Try.pinned (OpenSpec.ofChange fnImageOfWrong)

/-- 'laws.FnStepsOf': WHATEVER THE INPUT: true; the input reads as it did. -/
def fnStepsOfSpec : ChangeSpec := { name := "fnStepsOf", fn := fun _ => fun
  | [d] => { results := [.lit (.bool true)], args := [d] }
  | _ => none }
def fnStepsOfRow : OpenClaim := { program := "ytdhgnbfkcpaohaa", sum := "7c4407a0d06b7824b045c55e583c6355305c23eca5c28f78bef6fdd42c69e657", func := "loop.example/selfmaps/laws.FnStepsOf", spec := "fnStepsOf", apart := false }
def FnStepsOfSaid : Prop := fnStepsOfRow.holds Try.pinned (OpenSpec.ofChange fnStepsOfSpec)

/-- ITS FALSE NEIGHBOUR: 'it returns false'. Refute it at one input. -/
def fnStepsOfWrong : ChangeSpec := { name := "fnStepsOf", fn := fun _ => fun
  | [d] => { results := [.lit (.bool false)], args := [d] }
  | _ => none }
def FnStepsOfWrongFalsely : Prop := fnStepsOfRow.holds Try.pinned (OpenSpec.ofChange fnStepsOfWrong)

/-- 'laws.FnMeetingOf': WHATEVER THE INPUT: true; the input reads as it did. -/
def fnMeetingOfSpec : ChangeSpec := { name := "fnMeetingOf", fn := fun _ => fun
  | [d] => { results := [.lit (.bool true)], args := [d] }
  | _ => none }
def fnMeetingOfRow : OpenClaim := { program := "ytdhgnbfkcpaohaa", sum := "7c4407a0d06b7824b045c55e583c6355305c23eca5c28f78bef6fdd42c69e657", func := "loop.example/selfmaps/laws.FnMeetingOf", spec := "fnMeetingOf", unfollowed := true, recurses := true, apart := false }
def FnMeetingOfSaid : Prop := fnMeetingOfRow.holds Try.pinned (OpenSpec.ofChange fnMeetingOfSpec)

/-- ITS FALSE NEIGHBOUR: 'it returns false'. Refute it at one input. -/
def fnMeetingOfWrong : ChangeSpec := { name := "fnMeetingOf", fn := fun _ => fun
  | [d] => { results := [.lit (.bool false)], args := [d] }
  | _ => none }
def FnMeetingOfWrongFalsely : Prop := fnMeetingOfRow.holds Try.pinned (OpenSpec.ofChange fnMeetingOfWrong)

/-- 'laws.FnIdempotentOk': WHATEVER THE INPUT: true; the input reads as it did. -/
def fnIdempotentOkSpec : ChangeSpec := { name := "fnIdempotentOk", fn := fun _ => fun
  | [d] => { results := [.lit (.bool true)], args := [d] }
  | _ => none }
def fnIdempotentOkRow : OpenClaim := { program := "ytdhgnbfkcpaohaa", sum := "7c4407a0d06b7824b045c55e583c6355305c23eca5c28f78bef6fdd42c69e657", func := "loop.example/selfmaps/laws.FnIdempotentOk", spec := "fnIdempotentOk", apart := false }
def FnIdempotentOkSaid : Prop := fnIdempotentOkRow.holds Try.pinned (OpenSpec.ofChange fnIdempotentOkSpec)

/-- ITS FALSE NEIGHBOUR: 'it returns false'. Refute it at one input. -/
def fnIdempotentOkWrong : ChangeSpec := { name := "fnIdempotentOk", fn := fun _ => fun
  | [d] => { results := [.lit (.bool false)], args := [d] }
  | _ => none }
def FnIdempotentOkWrongFalsely : Prop := fnIdempotentOkRow.holds Try.pinned (OpenSpec.ofChange fnIdempotentOkWrong)

/-- 'laws.FnLoopOf': WHATEVER THE INPUT: true; the input reads as it did. -/
def fnLoopOfSpec : ChangeSpec := { name := "fnLoopOf", fn := fun _ => fun
  | [d] => { results := [.lit (.bool true)], args := [d] }
  | _ => none }
def fnLoopOfRow : OpenClaim := { program := "ytdhgnbfkcpaohaa", sum := "7c4407a0d06b7824b045c55e583c6355305c23eca5c28f78bef6fdd42c69e657", func := "loop.example/selfmaps/laws.FnLoopOf", spec := "fnLoopOf", apart := false }
def FnLoopOfSaid : Prop := fnLoopOfRow.holds Try.pinned (OpenSpec.ofChange fnLoopOfSpec)

/-- ITS FALSE NEIGHBOUR: 'it returns false'. Refute it at one input. -/
def fnLoopOfWrong : ChangeSpec := { name := "fnLoopOf", fn := fun _ => fun
  | [d] => { results := [.lit (.bool false)], args := [d] }
  | _ => none }
def FnLoopOfWrongFalsely : Prop := fnLoopOfRow.holds Try.pinned (OpenSpec.ofChange fnLoopOfWrong)

/-- 'laws.FnTurnedOf': WHATEVER THE INPUT: true; the input reads as it did. -/
def fnTurnedOfSpec : ChangeSpec := { name := "fnTurnedOf", fn := fun _ => fun
  | [d] => { results := [.lit (.bool true)], args := [d] }
  | _ => none }
def fnTurnedOfRow : OpenClaim := { program := "ytdhgnbfkcpaohaa", sum := "7c4407a0d06b7824b045c55e583c6355305c23eca5c28f78bef6fdd42c69e657", func := "loop.example/selfmaps/laws.FnTurnedOf", spec := "fnTurnedOf", unfollowed := true, recurses := true, apart := false }
def FnTurnedOfSaid : Prop := fnTurnedOfRow.holds Try.pinned (OpenSpec.ofChange fnTurnedOfSpec)

/-- ITS FALSE NEIGHBOUR: 'it returns false'. Refute it at one input. -/
def fnTurnedOfWrong : ChangeSpec := { name := "fnTurnedOf", fn := fun _ => fun
  | [d] => { results := [.lit (.bool false)], args := [d] }
  | _ => none }
def FnTurnedOfWrongFalsely : Prop := fnTurnedOfRow.holds Try.pinned (OpenSpec.ofChange fnTurnedOfWrong)

/-- 'laws.FnByPowers': WHATEVER THE INPUT: true; the input reads as it did. -/
def fnByPowersSpec : ChangeSpec := { name := "fnByPowers", fn := fun _ => fun
  | [d] => { results := [.lit (.bool true)], args := [d] }
  | _ => none }
def fnByPowersRow : OpenClaim := { program := "ytdhgnbfkcpaohaa", sum := "7c4407a0d06b7824b045c55e583c6355305c23eca5c28f78bef6fdd42c69e657", func := "loop.example/selfmaps/laws.FnByPowers", spec := "fnByPowers", unfollowed := true, recurses := true, apart := false }
def FnByPowersSaid : Prop := fnByPowersRow.holds Try.pinned (OpenSpec.ofChange fnByPowersSpec)

/-- ITS FALSE NEIGHBOUR: 'it returns false'. Refute it at one input. -/
def fnByPowersWrong : ChangeSpec := { name := "fnByPowers", fn := fun _ => fun
  | [d] => { results := [.lit (.bool false)], args := [d] }
  | _ => none }
def FnByPowersWrongFalsely : Prop := fnByPowersRow.holds Try.pinned (OpenSpec.ofChange fnByPowersWrong)

/-- 'laws.FnExactPeriodOf': WHATEVER THE INPUT: true; the input reads as it did. -/
def fnExactPeriodOfSpec : ChangeSpec := { name := "fnExactPeriodOf", fn := fun _ => fun
  | [d] => { results := [.lit (.bool true)], args := [d] }
  | _ => none }
def fnExactPeriodOfRow : OpenClaim := { program := "ytdhgnbfkcpaohaa", sum := "7c4407a0d06b7824b045c55e583c6355305c23eca5c28f78bef6fdd42c69e657", func := "loop.example/selfmaps/laws.FnExactPeriodOf", spec := "fnExactPeriodOf", unfollowed := true, recurses := true, apart := false }
def FnExactPeriodOfSaid : Prop := fnExactPeriodOfRow.holds Try.pinned (OpenSpec.ofChange fnExactPeriodOfSpec)

/-- ITS FALSE NEIGHBOUR: 'it returns false'. Refute it at one input. -/
def fnExactPeriodOfWrong : ChangeSpec := { name := "fnExactPeriodOf", fn := fun _ => fun
  | [d] => { results := [.lit (.bool false)], args := [d] }
  | _ => none }
def FnExactPeriodOfWrongFalsely : Prop := fnExactPeriodOfRow.holds Try.pinned (OpenSpec.ofChange fnExactPeriodOfWrong)

/-- 'laws.FnExactLoopsOf': WHATEVER THE INPUT: true; the input reads as it did. -/
def fnExactLoopsOfSpec : ChangeSpec := { name := "fnExactLoopsOf", fn := fun _ => fun
  | [d] => { results := [.lit (.bool true)], args := [d] }
  | _ => none }
def fnExactLoopsOfRow : OpenClaim := { program := "ytdhgnbfkcpaohaa", sum := "7c4407a0d06b7824b045c55e583c6355305c23eca5c28f78bef6fdd42c69e657", func := "loop.example/selfmaps/laws.FnExactLoopsOf", spec := "fnExactLoopsOf", apart := false }
def FnExactLoopsOfSaid : Prop := fnExactLoopsOfRow.holds Try.pinned (OpenSpec.ofChange fnExactLoopsOfSpec)

/-- ITS FALSE NEIGHBOUR: 'it returns false'. Refute it at one input. -/
def fnExactLoopsOfWrong : ChangeSpec := { name := "fnExactLoopsOf", fn := fun _ => fun
  | [d] => { results := [.lit (.bool false)], args := [d] }
  | _ => none }
def FnExactLoopsOfWrongFalsely : Prop := fnExactLoopsOfRow.holds Try.pinned (OpenSpec.ofChange fnExactLoopsOfWrong)

/-- 'laws.FnLotsOf': WHATEVER THE INPUT: true; the input reads as it did. -/
def fnLotsOfSpec : ChangeSpec := { name := "fnLotsOf", fn := fun _ => fun
  | [d] => { results := [.lit (.bool true)], args := [d] }
  | _ => none }
def fnLotsOfRow : OpenClaim := { program := "ytdhgnbfkcpaohaa", sum := "7c4407a0d06b7824b045c55e583c6355305c23eca5c28f78bef6fdd42c69e657", func := "loop.example/selfmaps/laws.FnLotsOf", spec := "fnLotsOf", apart := false }
def FnLotsOfSaid : Prop := fnLotsOfRow.holds Try.pinned (OpenSpec.ofChange fnLotsOfSpec)

/-- ITS FALSE NEIGHBOUR: 'it returns false'. Refute it at one input. -/
def fnLotsOfWrong : ChangeSpec := { name := "fnLotsOf", fn := fun _ => fun
  | [d] => { results := [.lit (.bool false)], args := [d] }
  | _ => none }
def FnLotsOfWrongFalsely : Prop := fnLotsOfRow.holds Try.pinned (OpenSpec.ofChange fnLotsOfWrong)

/- THE SECOND FORM. 'bulk': how many values and letters a reading holds, each counted each time it is reached (what is shared counts as often as it is met; a slice's spare places count too). A statement '..UptoSaid' is the law's where the arguments, and the package variables that the reading takes, are together of bulk at most 1048576: NARROWER than '..Said'. Prove '..Said' where nothing that the law and all that it calls make is longer than what came in: it says more and counts as full. Else prove '..UptoSaid'. A law counts once. -/
mutual
def uptoBulk {H : Type} : DataW H → Nat
  | .lit (.string bytes) => bytes.length + 1
  | .lit _ => 1
  | .nil => 1
  | .ptr d => uptoBulk d + 1
  | .slice elems spare => uptoBulkAll elems + uptoBulkAll spare + 1
  | .agg parts => uptoBulkAll parts + 1
  | .iface _ d => uptoBulk d + 1
  | .map entries => uptoBulkEntries entries + 1
  | .held _ => 1
def uptoBulkAll {H : Type} : List (DataW H) → Nat
  | [] => 0
  | d :: r => uptoBulk d + uptoBulkAll r
def uptoBulkEntries {H : Type} : List (Lit × DataW H) → Nat
  | [] => 0
  | x :: r => uptoBulkEntry x + uptoBulkEntries r
def uptoBulkEntry {H : Type} : Lit × DataW H → Nat
  | (.string bytes, d) => bytes.length + uptoBulk d + 1
  | (_, d) => uptoBulk d + 1
 end
def uptoSmall : (H : Type) → List (DataW H) → Bool := fun _ ds => decide (uptoBulkAll ds ≤ 1048576)
def OpenSpec.upto (s : _root_.Go.ChangeSpec) : _root_.Go.OpenSpec := { _root_.Go.OpenSpec.ofChange s with cond := some uptoSmall }

/-- 'laws.FnExactLotsOf', WHERE WHAT IT READS IS OF BULK AT MOST 1048576: true; the input reads as it did. -/
def fnExactLotsOfUptoRow : OpenClaim := { program := "ytdhgnbfkcpaohaa", sum := "7c4407a0d06b7824b045c55e583c6355305c23eca5c28f78bef6fdd42c69e657", func := "loop.example/selfmaps/laws.FnExactLotsOf", spec := "fnExactLotsOf", apart := false, narrowed := true }
def FnExactLotsOfUptoSaid : Prop := fnExactLotsOfUptoRow.holds Try.pinned (OpenSpec.upto fnExactLotsOfSpec)

/-- 'laws.FnHighOf', WHERE WHAT IT READS IS OF BULK AT MOST 1048576: true; the input reads as it did. -/
def fnHighOfUptoRow : OpenClaim := { program := "ytdhgnbfkcpaohaa", sum := "7c4407a0d06b7824b045c55e583c6355305c23eca5c28f78bef6fdd42c69e657", func := "loop.example/selfmaps/laws.FnHighOf", spec := "fnHighOf", apart := false, narrowed := true }
def FnHighOfUptoSaid : Prop := fnHighOfUptoRow.holds Try.pinned (OpenSpec.upto fnHighOfSpec)

/-- 'laws.FnBehindOf', WHERE WHAT IT READS IS OF BULK AT MOST 1048576: true; the input reads as it did. -/
def fnBehindOfUptoRow : OpenClaim := { program := "ytdhgnbfkcpaohaa", sum := "7c4407a0d06b7824b045c55e583c6355305c23eca5c28f78bef6fdd42c69e657", func := "loop.example/selfmaps/laws.FnBehindOf", spec := "fnBehindOf", unfollowed := true, recurses := true, apart := false, narrowed := true }
def FnBehindOfUptoSaid : Prop := fnBehindOfUptoRow.holds Try.pinned (OpenSpec.upto fnBehindOfSpec)

/-- 'laws.FnImageOf', WHERE WHAT IT READS IS OF BULK AT MOST 1048576: true; the input reads as it did. -/
def fnImageOfUptoRow : OpenClaim := { program := "ytdhgnbfkcpaohaa", sum := "7c4407a0d06b7824b045c55e583c6355305c23eca5c28f78bef6fdd42c69e657", func := "loop.example/selfmaps/laws.FnImageOf", spec := "fnImageOf", unfollowed := true, recurses := true, apart := false, narrowed := true }
def FnImageOfUptoSaid : Prop := fnImageOfUptoRow.holds Try.pinned (OpenSpec.upto fnImageOfSpec)

/-- 'laws.FnStepsOf', WHERE WHAT IT READS IS OF BULK AT MOST 1048576: true; the input reads as it did. -/
def fnStepsOfUptoRow : OpenClaim := { program := "ytdhgnbfkcpaohaa", sum := "7c4407a0d06b7824b045c55e583c6355305c23eca5c28f78bef6fdd42c69e657", func := "loop.example/selfmaps/laws.FnStepsOf", spec := "fnStepsOf", apart := false, narrowed := true }
def FnStepsOfUptoSaid : Prop := fnStepsOfUptoRow.holds Try.pinned (OpenSpec.upto fnStepsOfSpec)

/-- 'laws.FnMeetingOf', WHERE WHAT IT READS IS OF BULK AT MOST 1048576: true; the input reads as it did. -/
def fnMeetingOfUptoRow : OpenClaim := { program := "ytdhgnbfkcpaohaa", sum := "7c4407a0d06b7824b045c55e583c6355305c23eca5c28f78bef6fdd42c69e657", func := "loop.example/selfmaps/laws.FnMeetingOf", spec := "fnMeetingOf", unfollowed := true, recurses := true, apart := false, narrowed := true }
def FnMeetingOfUptoSaid : Prop := fnMeetingOfUptoRow.holds Try.pinned (OpenSpec.upto fnMeetingOfSpec)

/-- 'laws.FnIdempotentOk', WHERE WHAT IT READS IS OF BULK AT MOST 1048576: true; the input reads as it did. -/
def fnIdempotentOkUptoRow : OpenClaim := { program := "ytdhgnbfkcpaohaa", sum := "7c4407a0d06b7824b045c55e583c6355305c23eca5c28f78bef6fdd42c69e657", func := "loop.example/selfmaps/laws.FnIdempotentOk", spec := "fnIdempotentOk", apart := false, narrowed := true }
def FnIdempotentOkUptoSaid : Prop := fnIdempotentOkUptoRow.holds Try.pinned (OpenSpec.upto fnIdempotentOkSpec)

/-- 'laws.FnLoopOf', WHERE WHAT IT READS IS OF BULK AT MOST 1048576: true; the input reads as it did. -/
def fnLoopOfUptoRow : OpenClaim := { program := "ytdhgnbfkcpaohaa", sum := "7c4407a0d06b7824b045c55e583c6355305c23eca5c28f78bef6fdd42c69e657", func := "loop.example/selfmaps/laws.FnLoopOf", spec := "fnLoopOf", apart := false, narrowed := true }
def FnLoopOfUptoSaid : Prop := fnLoopOfUptoRow.holds Try.pinned (OpenSpec.upto fnLoopOfSpec)

/-- 'laws.FnTurnedOf', WHERE WHAT IT READS IS OF BULK AT MOST 1048576: true; the input reads as it did. -/
def fnTurnedOfUptoRow : OpenClaim := { program := "ytdhgnbfkcpaohaa", sum := "7c4407a0d06b7824b045c55e583c6355305c23eca5c28f78bef6fdd42c69e657", func := "loop.example/selfmaps/laws.FnTurnedOf", spec := "fnTurnedOf", unfollowed := true, recurses := true, apart := false, narrowed := true }
def FnTurnedOfUptoSaid : Prop := fnTurnedOfUptoRow.holds Try.pinned (OpenSpec.upto fnTurnedOfSpec)

/-- 'laws.FnByPowers', WHERE WHAT IT READS IS OF BULK AT MOST 1048576: true; the input reads as it did. -/
def fnByPowersUptoRow : OpenClaim := { program := "ytdhgnbfkcpaohaa", sum := "7c4407a0d06b7824b045c55e583c6355305c23eca5c28f78bef6fdd42c69e657", func := "loop.example/selfmaps/laws.FnByPowers", spec := "fnByPowers", unfollowed := true, recurses := true, apart := false, narrowed := true }
def FnByPowersUptoSaid : Prop := fnByPowersUptoRow.holds Try.pinned (OpenSpec.upto fnByPowersSpec)

/-- 'laws.FnExactPeriodOf', WHERE WHAT IT READS IS OF BULK AT MOST 1048576: true; the input reads as it did. -/
def fnExactPeriodOfUptoRow : OpenClaim := { program := "ytdhgnbfkcpaohaa", sum := "7c4407a0d06b7824b045c55e583c6355305c23eca5c28f78bef6fdd42c69e657", func := "loop.example/selfmaps/laws.FnExactPeriodOf", spec := "fnExactPeriodOf", unfollowed := true, recurses := true, apart := false, narrowed := true }
def FnExactPeriodOfUptoSaid : Prop := fnExactPeriodOfUptoRow.holds Try.pinned (OpenSpec.upto fnExactPeriodOfSpec)

/-- 'laws.FnExactLoopsOf', WHERE WHAT IT READS IS OF BULK AT MOST 1048576: true; the input reads as it did. -/
def fnExactLoopsOfUptoRow : OpenClaim := { program := "ytdhgnbfkcpaohaa", sum := "7c4407a0d06b7824b045c55e583c6355305c23eca5c28f78bef6fdd42c69e657", func := "loop.example/selfmaps/laws.FnExactLoopsOf", spec := "fnExactLoopsOf", apart := false, narrowed := true }
def FnExactLoopsOfUptoSaid : Prop := fnExactLoopsOfUptoRow.holds Try.pinned (OpenSpec.upto fnExactLoopsOfSpec)

/-- 'laws.FnLotsOf', WHERE WHAT IT READS IS OF BULK AT MOST 1048576: true; the input reads as it did. -/
def fnLotsOfUptoRow : OpenClaim := { program := "ytdhgnbfkcpaohaa", sum := "7c4407a0d06b7824b045c55e583c6355305c23eca5c28f78bef6fdd42c69e657", func := "loop.example/selfmaps/laws.FnLotsOf", spec := "fnLotsOf", apart := false, narrowed := true }
def FnLotsOfUptoSaid : Prop := fnLotsOfUptoRow.holds Try.pinned (OpenSpec.upto fnLotsOfSpec)

end Rows
end Go.Proofs.Ytdhgnbfkcpaohaa
