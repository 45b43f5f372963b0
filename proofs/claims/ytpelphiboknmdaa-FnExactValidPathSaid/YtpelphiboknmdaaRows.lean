/-
  No cell of these rows narrows 'for every input' (looked for: loops, veiled, ifaces, maps, wideKeys, modest, calm, conditions, laid).
  DERIVED. THE GIVEN ROWS OF THIS SEAT. 12 by the template 'for every input the law returns true; each argument reads behind the call as it read before'; 0 by the template 'total and deterministic' (their statements: YtpelphiboknmdaaTotals.lean).
  GIVEN WITH THE SEED: the statements are not yours to turn. If you find one false, say at which input.
  Laid BY PROGRAM, IN A SANDBOX (cutbox-rows.mjs): the forced cells as the released guide's own fill.sh prints them over the translation b3fab086692f63b8… (all of the seat's roots in one cut). By AI agents, Wed Nov 11 2026. No macro, syntax, notation, axiom, sorry.
-/
import Derived.Test.YtpelphiboknmdaaChecked
import GoSem.Claim
import GoSem.ClaimJoined
import GoSem.ClaimMapViews
import Derived.JoinedTies
import Derived.KernelRfl
namespace Go.Proofs.Ytpelphiboknmdaa
/- THE CELL 'sum', in the pinned program and in every row, IS THE sha256 OF THE DUMP (.gsa) THAT YtpelphiboknmdaaProg.lean LOADS. Nothing in Lean hashes anything: it is a label: what it is worth is what the hold of that sum in a sandbox is worth. -/
noncomputable def Try.pinned : Pinned := { name := "ytpelphiboknmdaa", sum := "b3fab086692f63b89fbc1c6884bb990859389f644dd9e70bd9b03b8a9fdf8157", checked := Try.checked }
namespace Rows
def none {H : Type} : Left H := { results := [], args := [] }

/-- 'laws.FnExactValidFeat': WHATEVER THE INPUT: true; the input reads as it did. -/
def fnExactValidFeatSpec : ChangeSpec := { name := "fnExactValidFeat", fn := fun _ => fun
  | [d] => { results := [.lit (.bool true)], args := [d] }
  | _ => none }
def fnExactValidFeatRow : OpenClaim := { program := "ytpelphiboknmdaa", sum := "b3fab086692f63b89fbc1c6884bb990859389f644dd9e70bd9b03b8a9fdf8157", func := "loop.example/g00918/laws.FnExactValidFeat", spec := "fnExactValidFeat", apart := false }
def FnExactValidFeatSaid : Prop := fnExactValidFeatRow.holds Try.pinned (OpenSpec.ofChange fnExactValidFeatSpec)

/-- ITS FALSE NEIGHBOUR: 'it returns false'. Refute it at one input. -/
def fnExactValidFeatWrong : ChangeSpec := { name := "fnExactValidFeat", fn := fun _ => fun
  | [d] => { results := [.lit (.bool false)], args := [d] }
  | _ => none }
def FnExactValidFeatWrongFalsely : Prop := fnExactValidFeatRow.holds Try.pinned (OpenSpec.ofChange fnExactValidFeatWrong)

/-- 'laws.FnExactFeatCost': WHATEVER THE INPUT: true; the input reads as it did. -/
def fnExactFeatCostSpec : ChangeSpec := { name := "fnExactFeatCost", fn := fun _ => fun
  | [d1, d2] => { results := [.lit (.bool true)], args := [d1, d2] }
  | _ => none }
def fnExactFeatCostRow : OpenClaim := { program := "ytpelphiboknmdaa", sum := "b3fab086692f63b89fbc1c6884bb990859389f644dd9e70bd9b03b8a9fdf8157", func := "loop.example/g00918/laws.FnExactFeatCost", spec := "fnExactFeatCost", apart := false }
def FnExactFeatCostSaid : Prop := fnExactFeatCostRow.holds Try.pinned (OpenSpec.ofChange fnExactFeatCostSpec)

/-- ITS FALSE NEIGHBOUR: 'it returns false'. Refute it at one input. -/
def fnExactFeatCostWrong : ChangeSpec := { name := "fnExactFeatCost", fn := fun _ => fun
  | [d1, d2] => { results := [.lit (.bool false)], args := [d1, d2] }
  | _ => none }
def FnExactFeatCostWrongFalsely : Prop := fnExactFeatCostRow.holds Try.pinned (OpenSpec.ofChange fnExactFeatCostWrong)

/-- 'laws.FnExactSameFeats': WHATEVER THE INPUT: true; the input reads as it did. -/
def fnExactSameFeatsSpec : ChangeSpec := { name := "fnExactSameFeats", fn := fun _ => fun
  | [d1, d2] => { results := [.lit (.bool true)], args := [d1, d2] }
  | _ => none }
def fnExactSameFeatsRow : OpenClaim := { program := "ytpelphiboknmdaa", sum := "b3fab086692f63b89fbc1c6884bb990859389f644dd9e70bd9b03b8a9fdf8157", func := "loop.example/g00918/laws.FnExactSameFeats", spec := "fnExactSameFeats", apart := false }
def FnExactSameFeatsSaid : Prop := fnExactSameFeatsRow.holds Try.pinned (OpenSpec.ofChange fnExactSameFeatsSpec)

/-- ITS FALSE NEIGHBOUR: 'it returns false'. Refute it at one input. -/
def fnExactSameFeatsWrong : ChangeSpec := { name := "fnExactSameFeats", fn := fun _ => fun
  | [d1, d2] => { results := [.lit (.bool false)], args := [d1, d2] }
  | _ => none }
def FnExactSameFeatsWrongFalsely : Prop := fnExactSameFeatsRow.holds Try.pinned (OpenSpec.ofChange fnExactSameFeatsWrong)

/-- 'laws.FnExactValidFeats': WHATEVER THE INPUT: true; the input reads as it did. -/
def fnExactValidFeatsSpec : ChangeSpec := { name := "fnExactValidFeats", fn := fun _ => fun
  | [d] => { results := [.lit (.bool true)], args := [d] }
  | _ => none }
def fnExactValidFeatsRow : OpenClaim := { program := "ytpelphiboknmdaa", sum := "b3fab086692f63b89fbc1c6884bb990859389f644dd9e70bd9b03b8a9fdf8157", func := "loop.example/g00918/laws.FnExactValidFeats", spec := "fnExactValidFeats", unfollowed := true, recurses := true, apart := false }
def FnExactValidFeatsSaid : Prop := fnExactValidFeatsRow.holds Try.pinned (OpenSpec.ofChange fnExactValidFeatsSpec)

/-- ITS FALSE NEIGHBOUR: 'it returns false'. Refute it at one input. -/
def fnExactValidFeatsWrong : ChangeSpec := { name := "fnExactValidFeats", fn := fun _ => fun
  | [d] => { results := [.lit (.bool false)], args := [d] }
  | _ => none }
def FnExactValidFeatsWrongFalsely : Prop := fnExactValidFeatsRow.holds Try.pinned (OpenSpec.ofChange fnExactValidFeatsWrong)

/-- 'laws.FnExactValidSeq': WHATEVER THE INPUT: true; the input reads as it did. -/
def fnExactValidSeqSpec : ChangeSpec := { name := "fnExactValidSeq", fn := fun _ => fun
  | [d] => { results := [.lit (.bool true)], args := [d] }
  | _ => none }
def fnExactValidSeqRow : OpenClaim := { program := "ytpelphiboknmdaa", sum := "b3fab086692f63b89fbc1c6884bb990859389f644dd9e70bd9b03b8a9fdf8157", func := "loop.example/g00918/laws.FnExactValidSeq", spec := "fnExactValidSeq", unfollowed := true, recurses := true, apart := false }
def FnExactValidSeqSaid : Prop := fnExactValidSeqRow.holds Try.pinned (OpenSpec.ofChange fnExactValidSeqSpec)

/-- ITS FALSE NEIGHBOUR: 'it returns false'. Refute it at one input. -/
def fnExactValidSeqWrong : ChangeSpec := { name := "fnExactValidSeq", fn := fun _ => fun
  | [d] => { results := [.lit (.bool false)], args := [d] }
  | _ => none }
def FnExactValidSeqWrongFalsely : Prop := fnExactValidSeqRow.holds Try.pinned (OpenSpec.ofChange fnExactValidSeqWrong)

/-- 'laws.FnExactValidPath': WHATEVER THE INPUT: true; the input reads as it did. -/
def fnExactValidPathSpec : ChangeSpec := { name := "fnExactValidPath", fn := fun _ => fun
  | [d1, d2, d3, d4] => { results := [.lit (.bool true)], args := [d1, d2, d3, d4] }
  | _ => none }
def fnExactValidPathRow : OpenClaim := { program := "ytpelphiboknmdaa", sum := "b3fab086692f63b89fbc1c6884bb990859389f644dd9e70bd9b03b8a9fdf8157", func := "loop.example/g00918/laws.FnExactValidPath", spec := "fnExactValidPath", apart := false }
def FnExactValidPathSaid : Prop := fnExactValidPathRow.holds Try.pinned (OpenSpec.ofChange fnExactValidPathSpec)

/-- ITS FALSE NEIGHBOUR: 'it returns false'. Refute it at one input. -/
def fnExactValidPathWrong : ChangeSpec := { name := "fnExactValidPath", fn := fun _ => fun
  | [d1, d2, d3, d4] => { results := [.lit (.bool false)], args := [d1, d2, d3, d4] }
  | _ => none }
def FnExactValidPathWrongFalsely : Prop := fnExactValidPathRow.holds Try.pinned (OpenSpec.ofChange fnExactValidPathWrong)

/-- 'laws.FnExactValidEnvelope': WHATEVER THE INPUT: true; the input reads as it did. -/
def fnExactValidEnvelopeSpec : ChangeSpec := { name := "fnExactValidEnvelope", fn := fun _ => fun
  | [d] => { results := [.lit (.bool true)], args := [d] }
  | _ => none }
def fnExactValidEnvelopeRow : OpenClaim := { program := "ytpelphiboknmdaa", sum := "b3fab086692f63b89fbc1c6884bb990859389f644dd9e70bd9b03b8a9fdf8157", func := "loop.example/g00918/laws.FnExactValidEnvelope", spec := "fnExactValidEnvelope", apart := false }
def FnExactValidEnvelopeSaid : Prop := fnExactValidEnvelopeRow.holds Try.pinned (OpenSpec.ofChange fnExactValidEnvelopeSpec)

/-- ITS FALSE NEIGHBOUR: 'it returns false'. Refute it at one input. -/
def fnExactValidEnvelopeWrong : ChangeSpec := { name := "fnExactValidEnvelope", fn := fun _ => fun
  | [d] => { results := [.lit (.bool false)], args := [d] }
  | _ => none }
def FnExactValidEnvelopeWrongFalsely : Prop := fnExactValidEnvelopeRow.holds Try.pinned (OpenSpec.ofChange fnExactValidEnvelopeWrong)

/-- 'laws.FnExactBoxOfSpots': WHATEVER THE INPUT: true; the input reads as it did. -/
def fnExactBoxOfSpotsSpec : ChangeSpec := { name := "fnExactBoxOfSpots", fn := fun _ => fun
  | [d] => { results := [.lit (.bool true)], args := [d] }
  | _ => none }
def fnExactBoxOfSpotsRow : OpenClaim := { program := "ytpelphiboknmdaa", sum := "b3fab086692f63b89fbc1c6884bb990859389f644dd9e70bd9b03b8a9fdf8157", func := "loop.example/g00918/laws.FnExactBoxOfSpots", spec := "fnExactBoxOfSpots", apart := false }
def FnExactBoxOfSpotsSaid : Prop := fnExactBoxOfSpotsRow.holds Try.pinned (OpenSpec.ofChange fnExactBoxOfSpotsSpec)

/-- ITS FALSE NEIGHBOUR: 'it returns false'. Refute it at one input. -/
def fnExactBoxOfSpotsWrong : ChangeSpec := { name := "fnExactBoxOfSpots", fn := fun _ => fun
  | [d] => { results := [.lit (.bool false)], args := [d] }
  | _ => none }
def FnExactBoxOfSpotsWrongFalsely : Prop := fnExactBoxOfSpotsRow.holds Try.pinned (OpenSpec.ofChange fnExactBoxOfSpotsWrong)

/-- 'laws.FnExactIsLabel': WHATEVER THE INPUT: true; the input reads as it did. -/
def fnExactIsLabelSpec : ChangeSpec := { name := "fnExactIsLabel", fn := fun _ => fun
  | [d] => { results := [.lit (.bool true)], args := [d] }
  | _ => none }
def fnExactIsLabelRow : OpenClaim := { program := "ytpelphiboknmdaa", sum := "b3fab086692f63b89fbc1c6884bb990859389f644dd9e70bd9b03b8a9fdf8157", func := "loop.example/g00918/laws.FnExactIsLabel", spec := "fnExactIsLabel", inPlace := ["internal/bytealg.IndexByteString", "internal/bytealg.IndexString"], named := ["internal/bytealg.MaxLen"], apart := false }
def FnExactIsLabelSaid : Prop := fnExactIsLabelRow.holds Try.pinned (OpenSpec.ofChange fnExactIsLabelSpec)

/-- ITS FALSE NEIGHBOUR: 'it returns false'. Refute it at one input. -/
def fnExactIsLabelWrong : ChangeSpec := { name := "fnExactIsLabel", fn := fun _ => fun
  | [d] => { results := [.lit (.bool false)], args := [d] }
  | _ => none }
def FnExactIsLabelWrongFalsely : Prop := fnExactIsLabelRow.holds Try.pinned (OpenSpec.ofChange fnExactIsLabelWrong)

/-- 'laws.FnExactMirrorFeats': WHATEVER THE INPUT: true; the input reads as it did. -/
def fnExactMirrorFeatsSpec : ChangeSpec := { name := "fnExactMirrorFeats", fn := fun _ => fun
  | [d] => { results := [.lit (.bool true)], args := [d] }
  | _ => none }
def fnExactMirrorFeatsRow : OpenClaim := { program := "ytpelphiboknmdaa", sum := "b3fab086692f63b89fbc1c6884bb990859389f644dd9e70bd9b03b8a9fdf8157", func := "loop.example/g00918/laws.FnExactMirrorFeats", spec := "fnExactMirrorFeats", unfollowed := true, recurses := true, apart := false }
def FnExactMirrorFeatsSaid : Prop := fnExactMirrorFeatsRow.holds Try.pinned (OpenSpec.ofChange fnExactMirrorFeatsSpec)

/-- ITS FALSE NEIGHBOUR: 'it returns false'. Refute it at one input. -/
def fnExactMirrorFeatsWrong : ChangeSpec := { name := "fnExactMirrorFeats", fn := fun _ => fun
  | [d] => { results := [.lit (.bool false)], args := [d] }
  | _ => none }
def FnExactMirrorFeatsWrongFalsely : Prop := fnExactMirrorFeatsRow.holds Try.pinned (OpenSpec.ofChange fnExactMirrorFeatsWrong)

/-- 'laws.FnExactBackFeats': WHATEVER THE INPUT: true; the input reads as it did. -/
def fnExactBackFeatsSpec : ChangeSpec := { name := "fnExactBackFeats", fn := fun _ => fun
  | [d] => { results := [.lit (.bool true)], args := [d] }
  | _ => none }
def fnExactBackFeatsRow : OpenClaim := { program := "ytpelphiboknmdaa", sum := "b3fab086692f63b89fbc1c6884bb990859389f644dd9e70bd9b03b8a9fdf8157", func := "loop.example/g00918/laws.FnExactBackFeats", spec := "fnExactBackFeats", unfollowed := true, recurses := true, apart := false }
def FnExactBackFeatsSaid : Prop := fnExactBackFeatsRow.holds Try.pinned (OpenSpec.ofChange fnExactBackFeatsSpec)

/-- ITS FALSE NEIGHBOUR: 'it returns false'. Refute it at one input. -/
def fnExactBackFeatsWrong : ChangeSpec := { name := "fnExactBackFeats", fn := fun _ => fun
  | [d] => { results := [.lit (.bool false)], args := [d] }
  | _ => none }
def FnExactBackFeatsWrongFalsely : Prop := fnExactBackFeatsRow.holds Try.pinned (OpenSpec.ofChange fnExactBackFeatsWrong)

/-- 'laws.FnExactEndsBound': WHATEVER THE INPUT: true; the input reads as it did. -/
def fnExactEndsBoundSpec : ChangeSpec := { name := "fnExactEndsBound", fn := fun _ => fun
  | [d1, d2] => { results := [.lit (.bool true)], args := [d1, d2] }
  | _ => none }
def fnExactEndsBoundRow : OpenClaim := { program := "ytpelphiboknmdaa", sum := "b3fab086692f63b89fbc1c6884bb990859389f644dd9e70bd9b03b8a9fdf8157", func := "loop.example/g00918/laws.FnExactEndsBound", spec := "fnExactEndsBound", unfollowed := true, recurses := true, apart := false }
def FnExactEndsBoundSaid : Prop := fnExactEndsBoundRow.holds Try.pinned (OpenSpec.ofChange fnExactEndsBoundSpec)

/-- ITS FALSE NEIGHBOUR: 'it returns false'. Refute it at one input. -/
def fnExactEndsBoundWrong : ChangeSpec := { name := "fnExactEndsBound", fn := fun _ => fun
  | [d1, d2] => { results := [.lit (.bool false)], args := [d1, d2] }
  | _ => none }
def FnExactEndsBoundWrongFalsely : Prop := fnExactEndsBoundRow.holds Try.pinned (OpenSpec.ofChange fnExactEndsBoundWrong)

/- THE SECOND FORM. 'bulk': how many values and letters a reading holds, each counted each time it is reached (what is shared counts as often as it is met; a slice's spare places count too). A statement '..UptoSaid' is the law's where the arguments, and the package variables that the reading takes, are together of bulk at most 1048576: NARROWER than '..Said'. Prove '..Said' where nothing that the law and all that it calls make is longer than what came in: it says more and counts as full. Else prove '..UptoSaid'. A law counts once. -/
mutual
def uptoBulk {H : Type} : DataW H → Nat
  | .lit (.string bytes) => bytes.length + 1
  | .lit _ => 1
  | .nil => 1
  | .ptr d => uptoBulk d + 1
  | .slice elems spare => uptoBulkAll elems + uptoBulkAll spare + 1
  | .agg parts => uptoBulkAll parts + 1
  | .iface _ d => uptoBulk d + 1
  | .map entries => uptoBulkEntries entries + 1
  | .held _ => 1
def uptoBulkAll {H : Type} : List (DataW H) → Nat
  | [] => 0
  | d :: r => uptoBulk d + uptoBulkAll r
def uptoBulkEntries {H : Type} : List (Lit × DataW H) → Nat
  | [] => 0
  | x :: r => uptoBulkEntry x + uptoBulkEntries r
def uptoBulkEntry {H : Type} : Lit × DataW H → Nat
  | (.string bytes, d) => bytes.length + uptoBulk d + 1
  | (_, d) => uptoBulk d + 1
 end
def uptoSmall : (H : Type) → List (DataW H) → Bool := fun _ ds => decide (uptoBulkAll ds ≤ 1048576)
def OpenSpec.upto (s : _root_.Go.ChangeSpec) : _root_.Go.OpenSpec := { _root_.Go.OpenSpec.ofChange s with cond := some uptoSmall }

/-- 'laws.FnExactValidFeat', WHERE WHAT IT READS IS OF BULK AT MOST 1048576: true; the input reads as it did. -/
def fnExactValidFeatUptoRow : OpenClaim := { program := "ytpelphiboknmdaa", sum := "b3fab086692f63b89fbc1c6884bb990859389f644dd9e70bd9b03b8a9fdf8157", func := "loop.example/g00918/laws.FnExactValidFeat", spec := "fnExactValidFeat", apart := false, narrowed := true }
def FnExactValidFeatUptoSaid : Prop := fnExactValidFeatUptoRow.holds Try.pinned (OpenSpec.upto fnExactValidFeatSpec)

/-- 'laws.FnExactFeatCost', WHERE WHAT IT READS IS OF BULK AT MOST 1048576: true; the input reads as it did. -/
def fnExactFeatCostUptoRow : OpenClaim := { program := "ytpelphiboknmdaa", sum := "b3fab086692f63b89fbc1c6884bb990859389f644dd9e70bd9b03b8a9fdf8157", func := "loop.example/g00918/laws.FnExactFeatCost", spec := "fnExactFeatCost", apart := false, narrowed := true }
def FnExactFeatCostUptoSaid : Prop := fnExactFeatCostUptoRow.holds Try.pinned (OpenSpec.upto fnExactFeatCostSpec)

/-- 'laws.FnExactSameFeats', WHERE WHAT IT READS IS OF BULK AT MOST 1048576: true; the input reads as it did. -/
def fnExactSameFeatsUptoRow : OpenClaim := { program := "ytpelphiboknmdaa", sum := "b3fab086692f63b89fbc1c6884bb990859389f644dd9e70bd9b03b8a9fdf8157", func := "loop.example/g00918/laws.FnExactSameFeats", spec := "fnExactSameFeats", apart := false, narrowed := true }
def FnExactSameFeatsUptoSaid : Prop := fnExactSameFeatsUptoRow.holds Try.pinned (OpenSpec.upto fnExactSameFeatsSpec)

/-- 'laws.FnExactValidFeats', WHERE WHAT IT READS IS OF BULK AT MOST 1048576: true; the input reads as it did. -/
def fnExactValidFeatsUptoRow : OpenClaim := { program := "ytpelphiboknmdaa", sum := "b3fab086692f63b89fbc1c6884bb990859389f644dd9e70bd9b03b8a9fdf8157", func := "loop.example/g00918/laws.FnExactValidFeats", spec := "fnExactValidFeats", unfollowed := true, recurses := true, apart := false, narrowed := true }
def FnExactValidFeatsUptoSaid : Prop := fnExactValidFeatsUptoRow.holds Try.pinned (OpenSpec.upto fnExactValidFeatsSpec)

/-- 'laws.FnExactValidSeq', WHERE WHAT IT READS IS OF BULK AT MOST 1048576: true; the input reads as it did. -/
def fnExactValidSeqUptoRow : OpenClaim := { program := "ytpelphiboknmdaa", sum := "b3fab086692f63b89fbc1c6884bb990859389f644dd9e70bd9b03b8a9fdf8157", func := "loop.example/g00918/laws.FnExactValidSeq", spec := "fnExactValidSeq", unfollowed := true, recurses := true, apart := false, narrowed := true }
def FnExactValidSeqUptoSaid : Prop := fnExactValidSeqUptoRow.holds Try.pinned (OpenSpec.upto fnExactValidSeqSpec)

/-- 'laws.FnExactValidPath', WHERE WHAT IT READS IS OF BULK AT MOST 1048576: true; the input reads as it did. -/
def fnExactValidPathUptoRow : OpenClaim := { program := "ytpelphiboknmdaa", sum := "b3fab086692f63b89fbc1c6884bb990859389f644dd9e70bd9b03b8a9fdf8157", func := "loop.example/g00918/laws.FnExactValidPath", spec := "fnExactValidPath", apart := false, narrowed := true }
def FnExactValidPathUptoSaid : Prop := fnExactValidPathUptoRow.holds Try.pinned (OpenSpec.upto fnExactValidPathSpec)

/-- 'laws.FnExactValidEnvelope', WHERE WHAT IT READS IS OF BULK AT MOST 1048576: true; the input reads as it did. -/
def fnExactValidEnvelopeUptoRow : OpenClaim := { program := "ytpelphiboknmdaa", sum := "b3fab086692f63b89fbc1c6884bb990859389f644dd9e70bd9b03b8a9fdf8157", func := "loop.example/g00918/laws.FnExactValidEnvelope", spec := "fnExactValidEnvelope", apart := false, narrowed := true }
def FnExactValidEnvelopeUptoSaid : Prop := fnExactValidEnvelopeUptoRow.holds Try.pinned (OpenSpec.upto fnExactValidEnvelopeSpec)

/-- 'laws.FnExactBoxOfSpots', WHERE WHAT IT READS IS OF BULK AT MOST 1048576: true; the input reads as it did. -/
def fnExactBoxOfSpotsUptoRow : OpenClaim := { program := "ytpelphiboknmdaa", sum := "b3fab086692f63b89fbc1c6884bb990859389f644dd9e70bd9b03b8a9fdf8157", func := "loop.example/g00918/laws.FnExactBoxOfSpots", spec := "fnExactBoxOfSpots", apart := false, narrowed := true }
def FnExactBoxOfSpotsUptoSaid : Prop := fnExactBoxOfSpotsUptoRow.holds Try.pinned (OpenSpec.upto fnExactBoxOfSpotsSpec)

/-- 'laws.FnExactIsLabel', WHERE WHAT IT READS IS OF BULK AT MOST 1048576: true; the input reads as it did. -/
def fnExactIsLabelUptoRow : OpenClaim := { program := "ytpelphiboknmdaa", sum := "b3fab086692f63b89fbc1c6884bb990859389f644dd9e70bd9b03b8a9fdf8157", func := "loop.example/g00918/laws.FnExactIsLabel", spec := "fnExactIsLabel", inPlace := ["internal/bytealg.IndexByteString", "internal/bytealg.IndexString"], named := ["internal/bytealg.MaxLen"], apart := false, narrowed := true }
def FnExactIsLabelUptoSaid : Prop := fnExactIsLabelUptoRow.holds Try.pinned (OpenSpec.upto fnExactIsLabelSpec)

/-- 'laws.FnExactMirrorFeats', WHERE WHAT IT READS IS OF BULK AT MOST 1048576: true; the input reads as it did. -/
def fnExactMirrorFeatsUptoRow : OpenClaim := { program := "ytpelphiboknmdaa", sum := "b3fab086692f63b89fbc1c6884bb990859389f644dd9e70bd9b03b8a9fdf8157", func := "loop.example/g00918/laws.FnExactMirrorFeats", spec := "fnExactMirrorFeats", unfollowed := true, recurses := true, apart := false, narrowed := true }
def FnExactMirrorFeatsUptoSaid : Prop := fnExactMirrorFeatsUptoRow.holds Try.pinned (OpenSpec.upto fnExactMirrorFeatsSpec)

/-- 'laws.FnExactBackFeats', WHERE WHAT IT READS IS OF BULK AT MOST 1048576: true; the input reads as it did. -/
def fnExactBackFeatsUptoRow : OpenClaim := { program := "ytpelphiboknmdaa", sum := "b3fab086692f63b89fbc1c6884bb990859389f644dd9e70bd9b03b8a9fdf8157", func := "loop.example/g00918/laws.FnExactBackFeats", spec := "fnExactBackFeats", unfollowed := true, recurses := true, apart := false, narrowed := true }
def FnExactBackFeatsUptoSaid : Prop := fnExactBackFeatsUptoRow.holds Try.pinned (OpenSpec.upto fnExactBackFeatsSpec)

/-- 'laws.FnExactEndsBound', WHERE WHAT IT READS IS OF BULK AT MOST 1048576: true; the input reads as it did. -/
def fnExactEndsBoundUptoRow : OpenClaim := { program := "ytpelphiboknmdaa", sum := "b3fab086692f63b89fbc1c6884bb990859389f644dd9e70bd9b03b8a9fdf8157", func := "loop.example/g00918/laws.FnExactEndsBound", spec := "fnExactEndsBound", unfollowed := true, recurses := true, apart := false, narrowed := true }
def FnExactEndsBoundUptoSaid : Prop := fnExactEndsBoundUptoRow.holds Try.pinned (OpenSpec.upto fnExactEndsBoundSpec)

end Rows
end Go.Proofs.Ytpelphiboknmdaa
