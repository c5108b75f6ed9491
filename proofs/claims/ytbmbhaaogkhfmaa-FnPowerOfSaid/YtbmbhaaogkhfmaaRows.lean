/-
  No cell of these rows narrows 'for every input' (looked for: loops, veiled, ifaces, maps, wideKeys, modest, calm, conditions, laid).
  DERIVED. THE GIVEN ROWS OF THIS SEAT. 12 by the template 'for every input the law returns true; each argument reads behind the call as it read before'; 0 by the template 'total and deterministic' (their statements: YtbmbhaaogkhfmaaTotals.lean).
  GIVEN WITH THE SEED: the statements are not yours to turn. If you find one false, say at which input.
  Laid BY PROGRAM, IN A SANDBOX (cutbox-rows.mjs): the forced cells as the released guide's own fill.sh prints them over the translation c72824a4a191966c… (all of the seat's roots in one cut). By AI agents, Wed Nov 11 2026. No macro, syntax, notation, axiom, sorry.
-/
import Derived.Test.YtbmbhaaogkhfmaaChecked
import GoSem.Claim
import GoSem.ClaimJoined
import GoSem.ClaimMapViews
import Derived.JoinedTies
import Derived.KernelRfl
namespace Go.Proofs.Ytbmbhaaogkhfmaa
/- THE CELL 'sum', in the pinned program and in every row, IS THE sha256 OF THE DUMP (.gsa) THAT YtbmbhaaogkhfmaaProg.lean LOADS. Nothing in Lean hashes anything: it is a label: what it is worth is what the hold of that sum in a sandbox is worth. -/
noncomputable def Try.pinned : Pinned := { name := "ytbmbhaaogkhfmaa", sum := "c72824a4a191966cfc2d06d1d35a8f979eabeef940e47541249f5a979b8f71be", checked := Try.checked }
namespace Rows
def none {H : Type} : Left H := { results := [], args := [] }

/-- 'laws.FnExactConstants': WHATEVER THE INPUT: true; the input reads as it did. -/
def fnExactConstantsSpec : ChangeSpec := { name := "fnExactConstants", fn := fun _ => fun
  | [] => { results := [.lit (.bool true)], args := [] }
  | _ => none }
def fnExactConstantsRow : OpenClaim := { program := "ytbmbhaaogkhfmaa", sum := "c72824a4a191966cfc2d06d1d35a8f979eabeef940e47541249f5a979b8f71be", func := "loop.example/selfmaps/laws.FnExactConstants", spec := "fnExactConstants", apart := false }
def FnExactConstantsSaid : Prop := fnExactConstantsRow.holds Try.pinned (OpenSpec.ofChange fnExactConstantsSpec)

/-- ITS FALSE NEIGHBOUR: 'it returns false'. Refute it at one input. -/
def fnExactConstantsWrong : ChangeSpec := { name := "fnExactConstants", fn := fun _ => fun
  | [] => { results := [.lit (.bool false)], args := [] }
  | _ => none }
def FnExactConstantsWrongFalsely : Prop := fnExactConstantsRow.holds Try.pinned (OpenSpec.ofChange fnExactConstantsWrong)

/-- 'laws.FnExactSameOf': WHATEVER THE INPUT: true; the input reads as it did. -/
def fnExactSameOfSpec : ChangeSpec := { name := "fnExactSameOf", fn := fun _ => fun
  | [d] => { results := [.lit (.bool true)], args := [d] }
  | _ => none }
def fnExactSameOfRow : OpenClaim := { program := "ytbmbhaaogkhfmaa", sum := "c72824a4a191966cfc2d06d1d35a8f979eabeef940e47541249f5a979b8f71be", func := "loop.example/selfmaps/laws.FnExactSameOf", spec := "fnExactSameOf", apart := false }
def FnExactSameOfSaid : Prop := fnExactSameOfRow.holds Try.pinned (OpenSpec.ofChange fnExactSameOfSpec)

/-- ITS FALSE NEIGHBOUR: 'it returns false'. Refute it at one input. -/
def fnExactSameOfWrong : ChangeSpec := { name := "fnExactSameOf", fn := fun _ => fun
  | [d] => { results := [.lit (.bool false)], args := [d] }
  | _ => none }
def FnExactSameOfWrongFalsely : Prop := fnExactSameOfRow.holds Try.pinned (OpenSpec.ofChange fnExactSameOfWrong)

/-- 'laws.FnExactMapOk': WHATEVER THE INPUT: true; the input reads as it did. -/
def fnExactMapOkSpec : ChangeSpec := { name := "fnExactMapOk", fn := fun _ => fun
  | [d] => { results := [.lit (.bool true)], args := [d] }
  | _ => none }
def fnExactMapOkRow : OpenClaim := { program := "ytbmbhaaogkhfmaa", sum := "c72824a4a191966cfc2d06d1d35a8f979eabeef940e47541249f5a979b8f71be", func := "loop.example/selfmaps/laws.FnExactMapOk", spec := "fnExactMapOk", apart := false }
def FnExactMapOkSaid : Prop := fnExactMapOkRow.holds Try.pinned (OpenSpec.ofChange fnExactMapOkSpec)

/-- ITS FALSE NEIGHBOUR: 'it returns false'. Refute it at one input. -/
def fnExactMapOkWrong : ChangeSpec := { name := "fnExactMapOk", fn := fun _ => fun
  | [d] => { results := [.lit (.bool false)], args := [d] }
  | _ => none }
def FnExactMapOkWrongFalsely : Prop := fnExactMapOkRow.holds Try.pinned (OpenSpec.ofChange fnExactMapOkWrong)

/-- 'laws.FnExactMapText': WHATEVER THE INPUT: true; the input reads as it did. -/
def fnExactMapTextSpec : ChangeSpec := { name := "fnExactMapText", fn := fun _ => fun
  | [d] => { results := [.lit (.bool true)], args := [d] }
  | _ => none }
def fnExactMapTextRow : OpenClaim := { program := "ytbmbhaaogkhfmaa", sum := "c72824a4a191966cfc2d06d1d35a8f979eabeef940e47541249f5a979b8f71be", func := "loop.example/selfmaps/laws.FnExactMapText", spec := "fnExactMapText", recurses := true, apart := false }
def FnExactMapTextSaid : Prop := fnExactMapTextRow.holds Try.pinned (OpenSpec.ofChange fnExactMapTextSpec)

/-- ITS FALSE NEIGHBOUR: 'it returns false'. Refute it at one input. -/
def fnExactMapTextWrong : ChangeSpec := { name := "fnExactMapText", fn := fun _ => fun
  | [d] => { results := [.lit (.bool false)], args := [d] }
  | _ => none }
def FnExactMapTextWrongFalsely : Prop := fnExactMapTextRow.holds Try.pinned (OpenSpec.ofChange fnExactMapTextWrong)

/-- 'laws.FnExactReadMap': WHATEVER THE INPUT: true; the input reads as it did. -/
def fnExactReadMapSpec : ChangeSpec := { name := "fnExactReadMap", fn := fun _ => fun
  | [d] => { results := [.lit (.bool true)], args := [d] }
  | _ => none }
def fnExactReadMapRow : OpenClaim := { program := "ytbmbhaaogkhfmaa", sum := "c72824a4a191966cfc2d06d1d35a8f979eabeef940e47541249f5a979b8f71be", func := "loop.example/selfmaps/laws.FnExactReadMap", spec := "fnExactReadMap", apart := false }
def FnExactReadMapSaid : Prop := fnExactReadMapRow.holds Try.pinned (OpenSpec.ofChange fnExactReadMapSpec)

/-- ITS FALSE NEIGHBOUR: 'it returns false'. Refute it at one input. -/
def fnExactReadMapWrong : ChangeSpec := { name := "fnExactReadMap", fn := fun _ => fun
  | [d] => { results := [.lit (.bool false)], args := [d] }
  | _ => none }
def FnExactReadMapWrongFalsely : Prop := fnExactReadMapRow.holds Try.pinned (OpenSpec.ofChange fnExactReadMapWrong)

/-- 'laws.FnByTwo': WHATEVER THE INPUT: true; the input reads as it did. -/
def fnByTwoSpec : ChangeSpec := { name := "fnByTwo", fn := fun _ => fun
  | [d] => { results := [.lit (.bool true)], args := [d] }
  | _ => none }
def fnByTwoRow : OpenClaim := { program := "ytbmbhaaogkhfmaa", sum := "c72824a4a191966cfc2d06d1d35a8f979eabeef940e47541249f5a979b8f71be", func := "loop.example/selfmaps/laws.FnByTwo", spec := "fnByTwo", unfollowed := true, recurses := true, apart := false }
def FnByTwoSaid : Prop := fnByTwoRow.holds Try.pinned (OpenSpec.ofChange fnByTwoSpec)

/-- ITS FALSE NEIGHBOUR: 'it returns false'. Refute it at one input. -/
def fnByTwoWrong : ChangeSpec := { name := "fnByTwo", fn := fun _ => fun
  | [d] => { results := [.lit (.bool false)], args := [d] }
  | _ => none }
def FnByTwoWrongFalsely : Prop := fnByTwoRow.holds Try.pinned (OpenSpec.ofChange fnByTwoWrong)

/-- 'laws.FnExactIdempotentOk': WHATEVER THE INPUT: true; the input reads as it did. -/
def fnExactIdempotentOkSpec : ChangeSpec := { name := "fnExactIdempotentOk", fn := fun _ => fun
  | [d] => { results := [.lit (.bool true)], args := [d] }
  | _ => none }
def fnExactIdempotentOkRow : OpenClaim := { program := "ytbmbhaaogkhfmaa", sum := "c72824a4a191966cfc2d06d1d35a8f979eabeef940e47541249f5a979b8f71be", func := "loop.example/selfmaps/laws.FnExactIdempotentOk", spec := "fnExactIdempotentOk", apart := false }
def FnExactIdempotentOkSaid : Prop := fnExactIdempotentOkRow.holds Try.pinned (OpenSpec.ofChange fnExactIdempotentOkSpec)

/-- ITS FALSE NEIGHBOUR: 'it returns false'. Refute it at one input. -/
def fnExactIdempotentOkWrong : ChangeSpec := { name := "fnExactIdempotentOk", fn := fun _ => fun
  | [d] => { results := [.lit (.bool false)], args := [d] }
  | _ => none }
def FnExactIdempotentOkWrongFalsely : Prop := fnExactIdempotentOkRow.holds Try.pinned (OpenSpec.ofChange fnExactIdempotentOkWrong)

/-- 'laws.FnExactBehindOf': WHATEVER THE INPUT: true; the input reads as it did. -/
def fnExactBehindOfSpec : ChangeSpec := { name := "fnExactBehindOf", fn := fun _ => fun
  | [d1, d2] => { results := [.lit (.bool true)], args := [d1, d2] }
  | _ => none }
def fnExactBehindOfRow : OpenClaim := { program := "ytbmbhaaogkhfmaa", sum := "c72824a4a191966cfc2d06d1d35a8f979eabeef940e47541249f5a979b8f71be", func := "loop.example/selfmaps/laws.FnExactBehindOf", spec := "fnExactBehindOf", apart := false }
def FnExactBehindOfSaid : Prop := fnExactBehindOfRow.holds Try.pinned (OpenSpec.ofChange fnExactBehindOfSpec)

/-- ITS FALSE NEIGHBOUR: 'it returns false'. Refute it at one input. -/
def fnExactBehindOfWrong : ChangeSpec := { name := "fnExactBehindOf", fn := fun _ => fun
  | [d1, d2] => { results := [.lit (.bool false)], args := [d1, d2] }
  | _ => none }
def FnExactBehindOfWrongFalsely : Prop := fnExactBehindOfRow.holds Try.pinned (OpenSpec.ofChange fnExactBehindOfWrong)

/-- 'laws.FnMapOk': WHATEVER THE INPUT: true; the input reads as it did. -/
def fnMapOkSpec : ChangeSpec := { name := "fnMapOk", fn := fun _ => fun
  | [d] => { results := [.lit (.bool true)], args := [d] }
  | _ => none }
def fnMapOkRow : OpenClaim := { program := "ytbmbhaaogkhfmaa", sum := "c72824a4a191966cfc2d06d1d35a8f979eabeef940e47541249f5a979b8f71be", func := "loop.example/selfmaps/laws.FnMapOk", spec := "fnMapOk", apart := false }
def FnMapOkSaid : Prop := fnMapOkRow.holds Try.pinned (OpenSpec.ofChange fnMapOkSpec)

/-- ITS FALSE NEIGHBOUR: 'it returns false'. Refute it at one input. -/
def fnMapOkWrong : ChangeSpec := { name := "fnMapOk", fn := fun _ => fun
  | [d] => { results := [.lit (.bool false)], args := [d] }
  | _ => none }
def FnMapOkWrongFalsely : Prop := fnMapOkRow.holds Try.pinned (OpenSpec.ofChange fnMapOkWrong)

/-- 'laws.FnExactMeetingOf': WHATEVER THE INPUT: true; the input reads as it did. -/
def fnExactMeetingOfSpec : ChangeSpec := { name := "fnExactMeetingOf", fn := fun _ => fun
  | [d1, d2] => { results := [.lit (.bool true)], args := [d1, d2] }
  | _ => none }
def fnExactMeetingOfRow : OpenClaim := { program := "ytbmbhaaogkhfmaa", sum := "c72824a4a191966cfc2d06d1d35a8f979eabeef940e47541249f5a979b8f71be", func := "loop.example/selfmaps/laws.FnExactMeetingOf", spec := "fnExactMeetingOf", unfollowed := true, recurses := true, apart := false }
def FnExactMeetingOfSaid : Prop := fnExactMeetingOfRow.holds Try.pinned (OpenSpec.ofChange fnExactMeetingOfSpec)

/-- ITS FALSE NEIGHBOUR: 'it returns false'. Refute it at one input. -/
def fnExactMeetingOfWrong : ChangeSpec := { name := "fnExactMeetingOf", fn := fun _ => fun
  | [d1, d2] => { results := [.lit (.bool false)], args := [d1, d2] }
  | _ => none }
def FnExactMeetingOfWrongFalsely : Prop := fnExactMeetingOfRow.holds Try.pinned (OpenSpec.ofChange fnExactMeetingOfWrong)

/-- 'laws.FnExactFromOf': WHATEVER THE INPUT: true; the input reads as it did. -/
def fnExactFromOfSpec : ChangeSpec := { name := "fnExactFromOf", fn := fun _ => fun
  | [d1, d2] => { results := [.lit (.bool true)], args := [d1, d2] }
  | _ => none }
def fnExactFromOfRow : OpenClaim := { program := "ytbmbhaaogkhfmaa", sum := "c72824a4a191966cfc2d06d1d35a8f979eabeef940e47541249f5a979b8f71be", func := "loop.example/selfmaps/laws.FnExactFromOf", spec := "fnExactFromOf", unfollowed := true, recurses := true, apart := false }
def FnExactFromOfSaid : Prop := fnExactFromOfRow.holds Try.pinned (OpenSpec.ofChange fnExactFromOfSpec)

/-- ITS FALSE NEIGHBOUR: 'it returns false'. Refute it at one input. -/
def fnExactFromOfWrong : ChangeSpec := { name := "fnExactFromOf", fn := fun _ => fun
  | [d1, d2] => { results := [.lit (.bool false)], args := [d1, d2] }
  | _ => none }
def FnExactFromOfWrongFalsely : Prop := fnExactFromOfRow.holds Try.pinned (OpenSpec.ofChange fnExactFromOfWrong)

/-- 'laws.FnPowerOf': WHATEVER THE INPUT: true; the input reads as it did. -/
def fnPowerOfSpec : ChangeSpec := { name := "fnPowerOf", fn := fun _ => fun
  | [d] => { results := [.lit (.bool true)], args := [d] }
  | _ => none }
def fnPowerOfRow : OpenClaim := { program := "ytbmbhaaogkhfmaa", sum := "c72824a4a191966cfc2d06d1d35a8f979eabeef940e47541249f5a979b8f71be", func := "loop.example/selfmaps/laws.FnPowerOf", spec := "fnPowerOf", recurses := true, apart := false }
def FnPowerOfSaid : Prop := fnPowerOfRow.holds Try.pinned (OpenSpec.ofChange fnPowerOfSpec)

/-- ITS FALSE NEIGHBOUR: 'it returns false'. Refute it at one input. -/
def fnPowerOfWrong : ChangeSpec := { name := "fnPowerOf", fn := fun _ => fun
  | [d] => { results := [.lit (.bool false)], args := [d] }
  | _ => none }
def FnPowerOfWrongFalsely : Prop := fnPowerOfRow.holds Try.pinned (OpenSpec.ofChange fnPowerOfWrong)

/- THE SECOND FORM. 'bulk': how many values and letters a reading holds, each counted each time it is reached (what is shared counts as often as it is met; a slice's spare places count too). A statement '..UptoSaid' is the law's where the arguments, and the package variables that the reading takes, are together of bulk at most 1048576: NARROWER than '..Said'. Prove '..Said' where nothing that the law and all that it calls make is longer than what came in: it says more and counts as full. Else prove '..UptoSaid'. A law counts once. -/
mutual
def uptoBulk {H : Type} : DataW H → Nat
  | .lit (.string bytes) => bytes.length + 1
  | .lit _ => 1
  | .nil => 1
  | .ptr d => uptoBulk d + 1
  | .slice elems spare => uptoBulkAll elems + uptoBulkAll spare + 1
  | .agg parts => uptoBulkAll parts + 1
  | .iface _ d => uptoBulk d + 1
  | .map entries => uptoBulkEntries entries + 1
  | .held _ => 1
def uptoBulkAll {H : Type} : List (DataW H) → Nat
  | [] => 0
  | d :: r => uptoBulk d + uptoBulkAll r
def uptoBulkEntries {H : Type} : List (Lit × DataW H) → Nat
  | [] => 0
  | x :: r => uptoBulkEntry x + uptoBulkEntries r
def uptoBulkEntry {H : Type} : Lit × DataW H → Nat
  | (.string bytes, d) => bytes.length + uptoBulk d + 1
  | (_, d) => uptoBulk d + 1
 end
def uptoSmall : (H : Type) → List (DataW H) → Bool := fun _ ds => decide (uptoBulkAll ds ≤ 1048576)
def OpenSpec.upto (s : _root_.Go.ChangeSpec) : _root_.Go.OpenSpec := { _root_.Go.OpenSpec.ofChange s with cond := some uptoSmall }

/-- 'laws.FnExactConstants', WHERE WHAT IT READS IS OF BULK AT MOST 1048576: true; the input reads as it did. -/
def fnExactConstantsUptoRow : OpenClaim := { program := "ytbmbhaaogkhfmaa", sum := "c72824a4a191966cfc2d06d1d35a8f979eabeef940e47541249f5a979b8f71be", func := "loop.example/selfmaps/laws.FnExactConstants", spec := "fnExactConstants", apart := false, narrowed := true }
def FnExactConstantsUptoSaid : Prop := fnExactConstantsUptoRow.holds Try.pinned (OpenSpec.upto fnExactConstantsSpec)

/-- 'laws.FnExactSameOf', WHERE WHAT IT READS IS OF BULK AT MOST 1048576: true; the input reads as it did. -/
def fnExactSameOfUptoRow : OpenClaim := { program := "ytbmbhaaogkhfmaa", sum := "c72824a4a191966cfc2d06d1d35a8f979eabeef940e47541249f5a979b8f71be", func := "loop.example/selfmaps/laws.FnExactSameOf", spec := "fnExactSameOf", apart := false, narrowed := true }
def FnExactSameOfUptoSaid : Prop := fnExactSameOfUptoRow.holds Try.pinned (OpenSpec.upto fnExactSameOfSpec)

/-- 'laws.FnExactMapOk', WHERE WHAT IT READS IS OF BULK AT MOST 1048576: true; the input reads as it did. -/
def fnExactMapOkUptoRow : OpenClaim := { program := "ytbmbhaaogkhfmaa", sum := "c72824a4a191966cfc2d06d1d35a8f979eabeef940e47541249f5a979b8f71be", func := "loop.example/selfmaps/laws.FnExactMapOk", spec := "fnExactMapOk", apart := false, narrowed := true }
def FnExactMapOkUptoSaid : Prop := fnExactMapOkUptoRow.holds Try.pinned (OpenSpec.upto fnExactMapOkSpec)

/-- 'laws.FnExactMapText', WHERE WHAT IT READS IS OF BULK AT MOST 1048576: true; the input reads as it did. -/
def fnExactMapTextUptoRow : OpenClaim := { program := "ytbmbhaaogkhfmaa", sum := "c72824a4a191966cfc2d06d1d35a8f979eabeef940e47541249f5a979b8f71be", func := "loop.example/selfmaps/laws.FnExactMapText", spec := "fnExactMapText", recurses := true, apart := false, narrowed := true }
def FnExactMapTextUptoSaid : Prop := fnExactMapTextUptoRow.holds Try.pinned (OpenSpec.upto fnExactMapTextSpec)

/-- 'laws.FnExactReadMap', WHERE WHAT IT READS IS OF BULK AT MOST 1048576: true; the input reads as it did. -/
def fnExactReadMapUptoRow : OpenClaim := { program := "ytbmbhaaogkhfmaa", sum := "c72824a4a191966cfc2d06d1d35a8f979eabeef940e47541249f5a979b8f71be", func := "loop.example/selfmaps/laws.FnExactReadMap", spec := "fnExactReadMap", apart := false, narrowed := true }
def FnExactReadMapUptoSaid : Prop := fnExactReadMapUptoRow.holds Try.pinned (OpenSpec.upto fnExactReadMapSpec)

/-- 'laws.FnByTwo', WHERE WHAT IT READS IS OF BULK AT MOST 1048576: true; the input reads as it did. -/
def fnByTwoUptoRow : OpenClaim := { program := "ytbmbhaaogkhfmaa", sum := "c72824a4a191966cfc2d06d1d35a8f979eabeef940e47541249f5a979b8f71be", func := "loop.example/selfmaps/laws.FnByTwo", spec := "fnByTwo", unfollowed := true, recurses := true, apart := false, narrowed := true }
def FnByTwoUptoSaid : Prop := fnByTwoUptoRow.holds Try.pinned (OpenSpec.upto fnByTwoSpec)

/-- 'laws.FnExactIdempotentOk', WHERE WHAT IT READS IS OF BULK AT MOST 1048576: true; the input reads as it did. -/
def fnExactIdempotentOkUptoRow : OpenClaim := { program := "ytbmbhaaogkhfmaa", sum := "c72824a4a191966cfc2d06d1d35a8f979eabeef940e47541249f5a979b8f71be", func := "loop.example/selfmaps/laws.FnExactIdempotentOk", spec := "fnExactIdempotentOk", apart := false, narrowed := true }
def FnExactIdempotentOkUptoSaid : Prop := fnExactIdempotentOkUptoRow.holds Try.pinned (OpenSpec.upto fnExactIdempotentOkSpec)

/-- 'laws.FnExactBehindOf', WHERE WHAT IT READS IS OF BULK AT MOST 1048576: true; the input reads as it did. -/
def fnExactBehindOfUptoRow : OpenClaim := { program := "ytbmbhaaogkhfmaa", sum := "c72824a4a191966cfc2d06d1d35a8f979eabeef940e47541249f5a979b8f71be", func := "loop.example/selfmaps/laws.FnExactBehindOf", spec := "fnExactBehindOf", apart := false, narrowed := true }
def FnExactBehindOfUptoSaid : Prop := fnExactBehindOfUptoRow.holds Try.pinned (OpenSpec.upto fnExactBehindOfSpec)

/-- 'laws.FnMapOk', WHERE WHAT IT READS IS OF BULK AT MOST 1048576: true; the input reads as it did. -/
def fnMapOkUptoRow : OpenClaim := { program := "ytbmbhaaogkhfmaa", sum := "c72824a4a191966cfc2d06d1d35a8f979eabeef940e47541249f5a979b8f71be", func := "loop.example/selfmaps/laws.FnMapOk", spec := "fnMapOk", apart := false, narrowed := true }
def FnMapOkUptoSaid : Prop := fnMapOkUptoRow.holds Try.pinned (OpenSpec.upto fnMapOkSpec)

/-- 'laws.FnExactMeetingOf', WHERE WHAT IT READS IS OF BULK AT MOST 1048576: true; the input reads as it did. -/
def fnExactMeetingOfUptoRow : OpenClaim := { program := "ytbmbhaaogkhfmaa", sum := "c72824a4a191966cfc2d06d1d35a8f979eabeef940e47541249f5a979b8f71be", func := "loop.example/selfmaps/laws.FnExactMeetingOf", spec := "fnExactMeetingOf", unfollowed := true, recurses := true, apart := false, narrowed := true }
def FnExactMeetingOfUptoSaid : Prop := fnExactMeetingOfUptoRow.holds Try.pinned (OpenSpec.upto fnExactMeetingOfSpec)

/-- 'laws.FnExactFromOf', WHERE WHAT IT READS IS OF BULK AT MOST 1048576: true; the input reads as it did. -/
def fnExactFromOfUptoRow : OpenClaim := { program := "ytbmbhaaogkhfmaa", sum := "c72824a4a191966cfc2d06d1d35a8f979eabeef940e47541249f5a979b8f71be", func := "loop.example/selfmaps/laws.FnExactFromOf", spec := "fnExactFromOf", unfollowed := true, recurses := true, apart := false, narrowed := true }
def FnExactFromOfUptoSaid : Prop := fnExactFromOfUptoRow.holds Try.pinned (OpenSpec.upto fnExactFromOfSpec)

/-- 'laws.FnPowerOf', WHERE WHAT IT READS IS OF BULK AT MOST 1048576: true; the input reads as it did. -/
def fnPowerOfUptoRow : OpenClaim := { program := "ytbmbhaaogkhfmaa", sum := "c72824a4a191966cfc2d06d1d35a8f979eabeef940e47541249f5a979b8f71be", func := "loop.example/selfmaps/laws.FnPowerOf", spec := "fnPowerOf", recurses := true, apart := false, narrowed := true }
def FnPowerOfUptoSaid : Prop := fnPowerOfUptoRow.holds Try.pinned (OpenSpec.upto fnPowerOfSpec)

end Rows
end Go.Proofs.Ytbmbhaaogkhfmaa
