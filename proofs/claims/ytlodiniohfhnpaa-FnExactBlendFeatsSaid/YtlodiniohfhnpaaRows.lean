/-
  No cell of these rows narrows 'for every input' (looked for: loops, veiled, ifaces, maps, wideKeys, modest, calm, conditions, laid).
  DERIVED. THE GIVEN ROWS OF THIS SEAT. 11 by the template 'for every input the law returns true; each argument reads behind the call as it read before'; 0 by the template 'total and deterministic' (their statements: YtlodiniohfhnpaaTotals.lean).
  GIVEN WITH THE SEED: the statements are not yours to turn. If you find one false, say at which input.
  Laid BY PROGRAM, IN A SANDBOX (cutbox-rows.mjs): the forced cells as the released guide's own fill.sh prints them over the translation 0e46ac80c4a01240… (all of the seat's roots in one cut). By AI agents, Wed Nov 11 2026. No macro, syntax, notation, axiom, sorry.
-/
import Derived.Test.YtlodiniohfhnpaaChecked
import GoSem.Claim
import GoSem.ClaimJoined
import GoSem.ClaimMapViews
import Derived.JoinedTies
import Derived.KernelRfl
namespace Go.Proofs.Ytlodiniohfhnpaa
/- THE CELL 'sum', in the pinned program and in every row, IS THE sha256 OF THE DUMP (.gsa) THAT YtlodiniohfhnpaaProg.lean LOADS. Nothing in Lean hashes anything: it is a label: what it is worth is what the hold of that sum in a sandbox is worth. -/
noncomputable def Try.pinned : Pinned := { name := "ytlodiniohfhnpaa", sum := "0e46ac80c4a01240e68d1ae9387feab79e89305a2b3a06ce716ed77c09d12f80", checked := Try.checked }
namespace Rows
def none {H : Type} : Left H := { results := [], args := [] }

/-- 'laws.FnExactSamePerceptron': WHATEVER THE INPUT: true; the input reads as it did. -/
def fnExactSamePerceptronSpec : ChangeSpec := { name := "fnExactSamePerceptron", fn := fun _ => fun
  | [d1, d2] => { results := [.lit (.bool true)], args := [d1, d2] }
  | _ => none }
def fnExactSamePerceptronRow : OpenClaim := { program := "ytlodiniohfhnpaa", sum := "0e46ac80c4a01240e68d1ae9387feab79e89305a2b3a06ce716ed77c09d12f80", func := "loop.example/g00918/laws.FnExactSamePerceptron", spec := "fnExactSamePerceptron", unfollowed := true, recurses := true, apart := false }
def FnExactSamePerceptronSaid : Prop := fnExactSamePerceptronRow.holds Try.pinned (OpenSpec.ofChange fnExactSamePerceptronSpec)

/-- ITS FALSE NEIGHBOUR: 'it returns false'. Refute it at one input. -/
def fnExactSamePerceptronWrong : ChangeSpec := { name := "fnExactSamePerceptron", fn := fun _ => fun
  | [d1, d2] => { results := [.lit (.bool false)], args := [d1, d2] }
  | _ => none }
def FnExactSamePerceptronWrongFalsely : Prop := fnExactSamePerceptronRow.holds Try.pinned (OpenSpec.ofChange fnExactSamePerceptronWrong)

/-- 'laws.FnExactSameStore': WHATEVER THE INPUT: true; the input reads as it did. -/
def fnExactSameStoreSpec : ChangeSpec := { name := "fnExactSameStore", fn := fun _ => fun
  | [d1, d2] => { results := [.lit (.bool true)], args := [d1, d2] }
  | _ => none }
def fnExactSameStoreRow : OpenClaim := { program := "ytlodiniohfhnpaa", sum := "0e46ac80c4a01240e68d1ae9387feab79e89305a2b3a06ce716ed77c09d12f80", func := "loop.example/g00918/laws.FnExactSameStore", spec := "fnExactSameStore", unfollowed := true, recurses := true, apart := false }
def FnExactSameStoreSaid : Prop := fnExactSameStoreRow.holds Try.pinned (OpenSpec.ofChange fnExactSameStoreSpec)

/-- ITS FALSE NEIGHBOUR: 'it returns false'. Refute it at one input. -/
def fnExactSameStoreWrong : ChangeSpec := { name := "fnExactSameStore", fn := fun _ => fun
  | [d1, d2] => { results := [.lit (.bool false)], args := [d1, d2] }
  | _ => none }
def FnExactSameStoreWrongFalsely : Prop := fnExactSameStoreRow.holds Try.pinned (OpenSpec.ofChange fnExactSameStoreWrong)

/-- 'laws.FnExactPartElastic': WHATEVER THE INPUT: true; the input reads as it did. -/
def fnExactPartElasticSpec : ChangeSpec := { name := "fnExactPartElastic", fn := fun _ => fun
  | [d1, d2] => { results := [.lit (.bool true)], args := [d1, d2] }
  | _ => none }
def fnExactPartElasticRow : OpenClaim := { program := "ytlodiniohfhnpaa", sum := "0e46ac80c4a01240e68d1ae9387feab79e89305a2b3a06ce716ed77c09d12f80", func := "loop.example/g00918/laws.FnExactPartElastic", spec := "fnExactPartElastic", unfollowed := true, recurses := true, apart := false }
def FnExactPartElasticSaid : Prop := fnExactPartElasticRow.holds Try.pinned (OpenSpec.ofChange fnExactPartElasticSpec)

/-- ITS FALSE NEIGHBOUR: 'it returns false'. Refute it at one input. -/
def fnExactPartElasticWrong : ChangeSpec := { name := "fnExactPartElastic", fn := fun _ => fun
  | [d1, d2] => { results := [.lit (.bool false)], args := [d1, d2] }
  | _ => none }
def FnExactPartElasticWrongFalsely : Prop := fnExactPartElasticRow.holds Try.pinned (OpenSpec.ofChange fnExactPartElasticWrong)

/-- 'laws.FnExactLowerBound': WHATEVER THE INPUT: true; the input reads as it did. -/
def fnExactLowerBoundSpec : ChangeSpec := { name := "fnExactLowerBound", fn := fun _ => fun
  | [d1, d2, d3] => { results := [.lit (.bool true)], args := [d1, d2, d3] }
  | _ => none }
def fnExactLowerBoundRow : OpenClaim := { program := "ytlodiniohfhnpaa", sum := "0e46ac80c4a01240e68d1ae9387feab79e89305a2b3a06ce716ed77c09d12f80", func := "loop.example/g00918/laws.FnExactLowerBound", spec := "fnExactLowerBound", unfollowed := true, recurses := true, apart := false }
def FnExactLowerBoundSaid : Prop := fnExactLowerBoundRow.holds Try.pinned (OpenSpec.ofChange fnExactLowerBoundSpec)

/-- ITS FALSE NEIGHBOUR: 'it returns false'. Refute it at one input. -/
def fnExactLowerBoundWrong : ChangeSpec := { name := "fnExactLowerBound", fn := fun _ => fun
  | [d1, d2, d3] => { results := [.lit (.bool false)], args := [d1, d2, d3] }
  | _ => none }
def FnExactLowerBoundWrongFalsely : Prop := fnExactLowerBoundRow.holds Try.pinned (OpenSpec.ofChange fnExactLowerBoundWrong)

/-- 'laws.FnExactEnvelopeOf': WHATEVER THE INPUT: true; the input reads as it did. -/
def fnExactEnvelopeOfSpec : ChangeSpec := { name := "fnExactEnvelopeOf", fn := fun _ => fun
  | [d1, d2, d3] => { results := [.lit (.bool true)], args := [d1, d2, d3] }
  | _ => none }
def fnExactEnvelopeOfRow : OpenClaim := { program := "ytlodiniohfhnpaa", sum := "0e46ac80c4a01240e68d1ae9387feab79e89305a2b3a06ce716ed77c09d12f80", func := "loop.example/g00918/laws.FnExactEnvelopeOf", spec := "fnExactEnvelopeOf", unfollowed := true, recurses := true, apart := false }
def FnExactEnvelopeOfSaid : Prop := fnExactEnvelopeOfRow.holds Try.pinned (OpenSpec.ofChange fnExactEnvelopeOfSpec)

/-- ITS FALSE NEIGHBOUR: 'it returns false'. Refute it at one input. -/
def fnExactEnvelopeOfWrong : ChangeSpec := { name := "fnExactEnvelopeOf", fn := fun _ => fun
  | [d1, d2, d3] => { results := [.lit (.bool false)], args := [d1, d2, d3] }
  | _ => none }
def FnExactEnvelopeOfWrongFalsely : Prop := fnExactEnvelopeOfRow.holds Try.pinned (OpenSpec.ofChange fnExactEnvelopeOfWrong)

/-- 'laws.FnExactBlendFeats': WHATEVER THE INPUT: true; the input reads as it did. -/
def fnExactBlendFeatsSpec : ChangeSpec := { name := "fnExactBlendFeats", fn := fun _ => fun
  | [d1, d2, d3] => { results := [.lit (.bool true)], args := [d1, d2, d3] }
  | _ => none }
def fnExactBlendFeatsRow : OpenClaim := { program := "ytlodiniohfhnpaa", sum := "0e46ac80c4a01240e68d1ae9387feab79e89305a2b3a06ce716ed77c09d12f80", func := "loop.example/g00918/laws.FnExactBlendFeats", spec := "fnExactBlendFeats", unfollowed := true, recurses := true, apart := false }
def FnExactBlendFeatsSaid : Prop := fnExactBlendFeatsRow.holds Try.pinned (OpenSpec.ofChange fnExactBlendFeatsSpec)

/-- ITS FALSE NEIGHBOUR: 'it returns false'. Refute it at one input. -/
def fnExactBlendFeatsWrong : ChangeSpec := { name := "fnExactBlendFeats", fn := fun _ => fun
  | [d1, d2, d3] => { results := [.lit (.bool false)], args := [d1, d2, d3] }
  | _ => none }
def FnExactBlendFeatsWrongFalsely : Prop := fnExactBlendFeatsRow.holds Try.pinned (OpenSpec.ofChange fnExactBlendFeatsWrong)

/-- 'laws.FnExactValidStore': WHATEVER THE INPUT: true; the input reads as it did. -/
def fnExactValidStoreSpec : ChangeSpec := { name := "fnExactValidStore", fn := fun _ => fun
  | [d] => { results := [.lit (.bool true)], args := [d] }
  | _ => none }
def fnExactValidStoreRow : OpenClaim := { program := "ytlodiniohfhnpaa", sum := "0e46ac80c4a01240e68d1ae9387feab79e89305a2b3a06ce716ed77c09d12f80", func := "loop.example/g00918/laws.FnExactValidStore", spec := "fnExactValidStore", inPlace := ["internal/bytealg.IndexByteString", "internal/bytealg.IndexString"], unfollowed := true, recurses := true, named := ["internal/bytealg.MaxLen"], apart := false }
def FnExactValidStoreSaid : Prop := fnExactValidStoreRow.holds Try.pinned (OpenSpec.ofChange fnExactValidStoreSpec)

/-- ITS FALSE NEIGHBOUR: 'it returns false'. Refute it at one input. -/
def fnExactValidStoreWrong : ChangeSpec := { name := "fnExactValidStore", fn := fun _ => fun
  | [d] => { results := [.lit (.bool false)], args := [d] }
  | _ => none }
def FnExactValidStoreWrongFalsely : Prop := fnExactValidStoreRow.holds Try.pinned (OpenSpec.ofChange fnExactValidStoreWrong)

/-- 'laws.FnExactElasticPath': WHATEVER THE INPUT: true; the input reads as it did. -/
def fnExactElasticPathSpec : ChangeSpec := { name := "fnExactElasticPath", fn := fun _ => fun
  | [d1, d2, d3] => { results := [.lit (.bool true)], args := [d1, d2, d3] }
  | _ => none }
def fnExactElasticPathRow : OpenClaim := { program := "ytlodiniohfhnpaa", sum := "0e46ac80c4a01240e68d1ae9387feab79e89305a2b3a06ce716ed77c09d12f80", func := "loop.example/g00918/laws.FnExactElasticPath", spec := "fnExactElasticPath", unfollowed := true, recurses := true, apart := false }
def FnExactElasticPathSaid : Prop := fnExactElasticPathRow.holds Try.pinned (OpenSpec.ofChange fnExactElasticPathSpec)

/-- ITS FALSE NEIGHBOUR: 'it returns false'. Refute it at one input. -/
def fnExactElasticPathWrong : ChangeSpec := { name := "fnExactElasticPath", fn := fun _ => fun
  | [d1, d2, d3] => { results := [.lit (.bool false)], args := [d1, d2, d3] }
  | _ => none }
def FnExactElasticPathWrongFalsely : Prop := fnExactElasticPathRow.holds Try.pinned (OpenSpec.ofChange fnExactElasticPathWrong)

/-- 'laws.FnExactNearestOf': WHATEVER THE INPUT: true; the input reads as it did. -/
def fnExactNearestOfSpec : ChangeSpec := { name := "fnExactNearestOf", fn := fun _ => fun
  | [d1, d2, d3] => { results := [.lit (.bool true)], args := [d1, d2, d3] }
  | _ => none }
def fnExactNearestOfRow : OpenClaim := { program := "ytlodiniohfhnpaa", sum := "0e46ac80c4a01240e68d1ae9387feab79e89305a2b3a06ce716ed77c09d12f80", func := "loop.example/g00918/laws.FnExactNearestOf", spec := "fnExactNearestOf", unfollowed := true, recurses := true, apart := false }
def FnExactNearestOfSaid : Prop := fnExactNearestOfRow.holds Try.pinned (OpenSpec.ofChange fnExactNearestOfSpec)

/-- ITS FALSE NEIGHBOUR: 'it returns false'. Refute it at one input. -/
def fnExactNearestOfWrong : ChangeSpec := { name := "fnExactNearestOf", fn := fun _ => fun
  | [d1, d2, d3] => { results := [.lit (.bool false)], args := [d1, d2, d3] }
  | _ => none }
def FnExactNearestOfWrongFalsely : Prop := fnExactNearestOfRow.holds Try.pinned (OpenSpec.ofChange fnExactNearestOfWrong)

/-- 'laws.FnExactNearestPruned': WHATEVER THE INPUT: true; the input reads as it did. -/
def fnExactNearestPrunedSpec : ChangeSpec := { name := "fnExactNearestPruned", fn := fun _ => fun
  | [d1, d2, d3] => { results := [.lit (.bool true)], args := [d1, d2, d3] }
  | _ => none }
def fnExactNearestPrunedRow : OpenClaim := { program := "ytlodiniohfhnpaa", sum := "0e46ac80c4a01240e68d1ae9387feab79e89305a2b3a06ce716ed77c09d12f80", func := "loop.example/g00918/laws.FnExactNearestPruned", spec := "fnExactNearestPruned", unfollowed := true, recurses := true, apart := false }
def FnExactNearestPrunedSaid : Prop := fnExactNearestPrunedRow.holds Try.pinned (OpenSpec.ofChange fnExactNearestPrunedSpec)

/-- ITS FALSE NEIGHBOUR: 'it returns false'. Refute it at one input. -/
def fnExactNearestPrunedWrong : ChangeSpec := { name := "fnExactNearestPruned", fn := fun _ => fun
  | [d1, d2, d3] => { results := [.lit (.bool false)], args := [d1, d2, d3] }
  | _ => none }
def FnExactNearestPrunedWrongFalsely : Prop := fnExactNearestPrunedRow.holds Try.pinned (OpenSpec.ofChange fnExactNearestPrunedWrong)

/-- 'laws.FnExactBoundOrder': WHATEVER THE INPUT: true; the input reads as it did. -/
def fnExactBoundOrderSpec : ChangeSpec := { name := "fnExactBoundOrder", fn := fun _ => fun
  | [d1, d2, d3] => { results := [.lit (.bool true)], args := [d1, d2, d3] }
  | _ => none }
def fnExactBoundOrderRow : OpenClaim := { program := "ytlodiniohfhnpaa", sum := "0e46ac80c4a01240e68d1ae9387feab79e89305a2b3a06ce716ed77c09d12f80", func := "loop.example/g00918/laws.FnExactBoundOrder", spec := "fnExactBoundOrder", unfollowed := true, recurses := true, apart := false }
def FnExactBoundOrderSaid : Prop := fnExactBoundOrderRow.holds Try.pinned (OpenSpec.ofChange fnExactBoundOrderSpec)

/-- ITS FALSE NEIGHBOUR: 'it returns false'. Refute it at one input. -/
def fnExactBoundOrderWrong : ChangeSpec := { name := "fnExactBoundOrder", fn := fun _ => fun
  | [d1, d2, d3] => { results := [.lit (.bool false)], args := [d1, d2, d3] }
  | _ => none }
def FnExactBoundOrderWrongFalsely : Prop := fnExactBoundOrderRow.holds Try.pinned (OpenSpec.ofChange fnExactBoundOrderWrong)

/- THE SECOND FORM. 'bulk': how many values and letters a reading holds, each counted each time it is reached (what is shared counts as often as it is met; a slice's spare places count too). A statement '..UptoSaid' is the law's where the arguments, and the package variables that the reading takes, are together of bulk at most 1048576: NARROWER than '..Said'. Prove '..Said' where nothing that the law and all that it calls make is longer than what came in: it says more and counts as full. Else prove '..UptoSaid'. A law counts once. -/
mutual
def uptoBulk {H : Type} : DataW H → Nat
  | .lit (.string bytes) => bytes.length + 1
  | .lit _ => 1
  | .nil => 1
  | .ptr d => uptoBulk d + 1
  | .slice elems spare => uptoBulkAll elems + uptoBulkAll spare + 1
  | .agg parts => uptoBulkAll parts + 1
  | .iface _ d => uptoBulk d + 1
  | .map entries => uptoBulkEntries entries + 1
  | .held _ => 1
def uptoBulkAll {H : Type} : List (DataW H) → Nat
  | [] => 0
  | d :: r => uptoBulk d + uptoBulkAll r
def uptoBulkEntries {H : Type} : List (Lit × DataW H) → Nat
  | [] => 0
  | x :: r => uptoBulkEntry x + uptoBulkEntries r
def uptoBulkEntry {H : Type} : Lit × DataW H → Nat
  | (.string bytes, d) => bytes.length + uptoBulk d + 1
  | (_, d) => uptoBulk d + 1
 end
def uptoSmall : (H : Type) → List (DataW H) → Bool := fun _ ds => decide (uptoBulkAll ds ≤ 1048576)
def OpenSpec.upto (s : _root_.Go.ChangeSpec) : _root_.Go.OpenSpec := { _root_.Go.OpenSpec.ofChange s with cond := some uptoSmall }

/-- 'laws.FnExactSamePerceptron', WHERE WHAT IT READS IS OF BULK AT MOST 1048576: true; the input reads as it did. -/
def fnExactSamePerceptronUptoRow : OpenClaim := { program := "ytlodiniohfhnpaa", sum := "0e46ac80c4a01240e68d1ae9387feab79e89305a2b3a06ce716ed77c09d12f80", func := "loop.example/g00918/laws.FnExactSamePerceptron", spec := "fnExactSamePerceptron", unfollowed := true, recurses := true, apart := false, narrowed := true }
def FnExactSamePerceptronUptoSaid : Prop := fnExactSamePerceptronUptoRow.holds Try.pinned (OpenSpec.upto fnExactSamePerceptronSpec)

/-- 'laws.FnExactSameStore', WHERE WHAT IT READS IS OF BULK AT MOST 1048576: true; the input reads as it did. -/
def fnExactSameStoreUptoRow : OpenClaim := { program := "ytlodiniohfhnpaa", sum := "0e46ac80c4a01240e68d1ae9387feab79e89305a2b3a06ce716ed77c09d12f80", func := "loop.example/g00918/laws.FnExactSameStore", spec := "fnExactSameStore", unfollowed := true, recurses := true, apart := false, narrowed := true }
def FnExactSameStoreUptoSaid : Prop := fnExactSameStoreUptoRow.holds Try.pinned (OpenSpec.upto fnExactSameStoreSpec)

/-- 'laws.FnExactPartElastic', WHERE WHAT IT READS IS OF BULK AT MOST 1048576: true; the input reads as it did. -/
def fnExactPartElasticUptoRow : OpenClaim := { program := "ytlodiniohfhnpaa", sum := "0e46ac80c4a01240e68d1ae9387feab79e89305a2b3a06ce716ed77c09d12f80", func := "loop.example/g00918/laws.FnExactPartElastic", spec := "fnExactPartElastic", unfollowed := true, recurses := true, apart := false, narrowed := true }
def FnExactPartElasticUptoSaid : Prop := fnExactPartElasticUptoRow.holds Try.pinned (OpenSpec.upto fnExactPartElasticSpec)

/-- 'laws.FnExactLowerBound', WHERE WHAT IT READS IS OF BULK AT MOST 1048576: true; the input reads as it did. -/
def fnExactLowerBoundUptoRow : OpenClaim := { program := "ytlodiniohfhnpaa", sum := "0e46ac80c4a01240e68d1ae9387feab79e89305a2b3a06ce716ed77c09d12f80", func := "loop.example/g00918/laws.FnExactLowerBound", spec := "fnExactLowerBound", unfollowed := true, recurses := true, apart := false, narrowed := true }
def FnExactLowerBoundUptoSaid : Prop := fnExactLowerBoundUptoRow.holds Try.pinned (OpenSpec.upto fnExactLowerBoundSpec)

/-- 'laws.FnExactEnvelopeOf', WHERE WHAT IT READS IS OF BULK AT MOST 1048576: true; the input reads as it did. -/
def fnExactEnvelopeOfUptoRow : OpenClaim := { program := "ytlodiniohfhnpaa", sum := "0e46ac80c4a01240e68d1ae9387feab79e89305a2b3a06ce716ed77c09d12f80", func := "loop.example/g00918/laws.FnExactEnvelopeOf", spec := "fnExactEnvelopeOf", unfollowed := true, recurses := true, apart := false, narrowed := true }
def FnExactEnvelopeOfUptoSaid : Prop := fnExactEnvelopeOfUptoRow.holds Try.pinned (OpenSpec.upto fnExactEnvelopeOfSpec)

/-- 'laws.FnExactBlendFeats', WHERE WHAT IT READS IS OF BULK AT MOST 1048576: true; the input reads as it did. -/
def fnExactBlendFeatsUptoRow : OpenClaim := { program := "ytlodiniohfhnpaa", sum := "0e46ac80c4a01240e68d1ae9387feab79e89305a2b3a06ce716ed77c09d12f80", func := "loop.example/g00918/laws.FnExactBlendFeats", spec := "fnExactBlendFeats", unfollowed := true, recurses := true, apart := false, narrowed := true }
def FnExactBlendFeatsUptoSaid : Prop := fnExactBlendFeatsUptoRow.holds Try.pinned (OpenSpec.upto fnExactBlendFeatsSpec)

/-- 'laws.FnExactValidStore', WHERE WHAT IT READS IS OF BULK AT MOST 1048576: true; the input reads as it did. -/
def fnExactValidStoreUptoRow : OpenClaim := { program := "ytlodiniohfhnpaa", sum := "0e46ac80c4a01240e68d1ae9387feab79e89305a2b3a06ce716ed77c09d12f80", func := "loop.example/g00918/laws.FnExactValidStore", spec := "fnExactValidStore", inPlace := ["internal/bytealg.IndexByteString", "internal/bytealg.IndexString"], unfollowed := true, recurses := true, named := ["internal/bytealg.MaxLen"], apart := false, narrowed := true }
def FnExactValidStoreUptoSaid : Prop := fnExactValidStoreUptoRow.holds Try.pinned (OpenSpec.upto fnExactValidStoreSpec)

/-- 'laws.FnExactElasticPath', WHERE WHAT IT READS IS OF BULK AT MOST 1048576: true; the input reads as it did. -/
def fnExactElasticPathUptoRow : OpenClaim := { program := "ytlodiniohfhnpaa", sum := "0e46ac80c4a01240e68d1ae9387feab79e89305a2b3a06ce716ed77c09d12f80", func := "loop.example/g00918/laws.FnExactElasticPath", spec := "fnExactElasticPath", unfollowed := true, recurses := true, apart := false, narrowed := true }
def FnExactElasticPathUptoSaid : Prop := fnExactElasticPathUptoRow.holds Try.pinned (OpenSpec.upto fnExactElasticPathSpec)

/-- 'laws.FnExactNearestOf', WHERE WHAT IT READS IS OF BULK AT MOST 1048576: true; the input reads as it did. -/
def fnExactNearestOfUptoRow : OpenClaim := { program := "ytlodiniohfhnpaa", sum := "0e46ac80c4a01240e68d1ae9387feab79e89305a2b3a06ce716ed77c09d12f80", func := "loop.example/g00918/laws.FnExactNearestOf", spec := "fnExactNearestOf", unfollowed := true, recurses := true, apart := false, narrowed := true }
def FnExactNearestOfUptoSaid : Prop := fnExactNearestOfUptoRow.holds Try.pinned (OpenSpec.upto fnExactNearestOfSpec)

/-- 'laws.FnExactNearestPruned', WHERE WHAT IT READS IS OF BULK AT MOST 1048576: true; the input reads as it did. -/
def fnExactNearestPrunedUptoRow : OpenClaim := { program := "ytlodiniohfhnpaa", sum := "0e46ac80c4a01240e68d1ae9387feab79e89305a2b3a06ce716ed77c09d12f80", func := "loop.example/g00918/laws.FnExactNearestPruned", spec := "fnExactNearestPruned", unfollowed := true, recurses := true, apart := false, narrowed := true }
def FnExactNearestPrunedUptoSaid : Prop := fnExactNearestPrunedUptoRow.holds Try.pinned (OpenSpec.upto fnExactNearestPrunedSpec)

/-- 'laws.FnExactBoundOrder', WHERE WHAT IT READS IS OF BULK AT MOST 1048576: true; the input reads as it did. -/
def fnExactBoundOrderUptoRow : OpenClaim := { program := "ytlodiniohfhnpaa", sum := "0e46ac80c4a01240e68d1ae9387feab79e89305a2b3a06ce716ed77c09d12f80", func := "loop.example/g00918/laws.FnExactBoundOrder", spec := "fnExactBoundOrder", unfollowed := true, recurses := true, apart := false, narrowed := true }
def FnExactBoundOrderUptoSaid : Prop := fnExactBoundOrderUptoRow.holds Try.pinned (OpenSpec.upto fnExactBoundOrderSpec)

end Rows
end Go.Proofs.Ytlodiniohfhnpaa
