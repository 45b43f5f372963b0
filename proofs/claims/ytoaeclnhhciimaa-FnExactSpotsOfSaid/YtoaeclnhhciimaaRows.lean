/-
  No cell of these rows narrows 'for every input' (looked for: loops, veiled, ifaces, maps, wideKeys, modest, calm, conditions, laid).
  DERIVED. THE GIVEN ROWS OF THIS SEAT. 12 by the template 'for every input the law returns true; each argument reads behind the call as it read before'; 0 by the template 'total and deterministic' (their statements: YtoaeclnhhciimaaTotals.lean).
  GIVEN WITH THE SEED: the statements are not yours to turn. If you find one false, say at which input.
  Laid BY PROGRAM, IN A SANDBOX (cutbox-rows.mjs): the forced cells as the released guide's own fill.sh prints them over the translation 9f83d7516914729b… (all of the seat's roots in one cut). By AI agents, Wed Nov 11 2026. No macro, syntax, notation, axiom, sorry.
-/
import Derived.Test.YtoaeclnhhciimaaChecked
import GoSem.Claim
import GoSem.ClaimJoined
import GoSem.ClaimMapViews
import Derived.JoinedTies
import Derived.KernelRfl
namespace Go.Proofs.Ytoaeclnhhciimaa
/- THE CELL 'sum', in the pinned program and in every row, IS THE sha256 OF THE DUMP (.gsa) THAT YtoaeclnhhciimaaProg.lean LOADS. Nothing in Lean hashes anything: it is a label: what it is worth is what the hold of that sum in a sandbox is worth. -/
noncomputable def Try.pinned : Pinned := { name := "ytoaeclnhhciimaa", sum := "9f83d7516914729b94ca95c5222e54cc743476923c6ccedd3af1f87fe1752727", checked := Try.checked }
namespace Rows
def none {H : Type} : Left H := { results := [], args := [] }

/-- 'laws.FnExactValidEnvelope': WHATEVER THE INPUT: true; the input reads as it did. -/
def fnExactValidEnvelopeSpec : ChangeSpec := { name := "fnExactValidEnvelope", fn := fun _ => fun
  | [d] => { results := [.lit (.bool true)], args := [d] }
  | _ => none }
def fnExactValidEnvelopeRow : OpenClaim := { program := "ytoaeclnhhciimaa", sum := "9f83d7516914729b94ca95c5222e54cc743476923c6ccedd3af1f87fe1752727", func := "loop.example/g00918/laws.FnExactValidEnvelope", spec := "fnExactValidEnvelope", apart := false }
def FnExactValidEnvelopeSaid : Prop := fnExactValidEnvelopeRow.holds Try.pinned (OpenSpec.ofChange fnExactValidEnvelopeSpec)

/-- ITS FALSE NEIGHBOUR: 'it returns false'. Refute it at one input. -/
def fnExactValidEnvelopeWrong : ChangeSpec := { name := "fnExactValidEnvelope", fn := fun _ => fun
  | [d] => { results := [.lit (.bool false)], args := [d] }
  | _ => none }
def FnExactValidEnvelopeWrongFalsely : Prop := fnExactValidEnvelopeRow.holds Try.pinned (OpenSpec.ofChange fnExactValidEnvelopeWrong)

/-- 'laws.FnExactBoxOfSpots': WHATEVER THE INPUT: true; the input reads as it did. -/
def fnExactBoxOfSpotsSpec : ChangeSpec := { name := "fnExactBoxOfSpots", fn := fun _ => fun
  | [d] => { results := [.lit (.bool true)], args := [d] }
  | _ => none }
def fnExactBoxOfSpotsRow : OpenClaim := { program := "ytoaeclnhhciimaa", sum := "9f83d7516914729b94ca95c5222e54cc743476923c6ccedd3af1f87fe1752727", func := "loop.example/g00918/laws.FnExactBoxOfSpots", spec := "fnExactBoxOfSpots", apart := false }
def FnExactBoxOfSpotsSaid : Prop := fnExactBoxOfSpotsRow.holds Try.pinned (OpenSpec.ofChange fnExactBoxOfSpotsSpec)

/-- ITS FALSE NEIGHBOUR: 'it returns false'. Refute it at one input. -/
def fnExactBoxOfSpotsWrong : ChangeSpec := { name := "fnExactBoxOfSpots", fn := fun _ => fun
  | [d] => { results := [.lit (.bool false)], args := [d] }
  | _ => none }
def FnExactBoxOfSpotsWrongFalsely : Prop := fnExactBoxOfSpotsRow.holds Try.pinned (OpenSpec.ofChange fnExactBoxOfSpotsWrong)

/-- 'laws.FnExactIsLabel': WHATEVER THE INPUT: true; the input reads as it did. -/
def fnExactIsLabelSpec : ChangeSpec := { name := "fnExactIsLabel", fn := fun _ => fun
  | [d] => { results := [.lit (.bool true)], args := [d] }
  | _ => none }
def fnExactIsLabelRow : OpenClaim := { program := "ytoaeclnhhciimaa", sum := "9f83d7516914729b94ca95c5222e54cc743476923c6ccedd3af1f87fe1752727", func := "loop.example/g00918/laws.FnExactIsLabel", spec := "fnExactIsLabel", inPlace := ["internal/bytealg.IndexByteString", "internal/bytealg.IndexString"], named := ["internal/bytealg.MaxLen"], apart := false }
def FnExactIsLabelSaid : Prop := fnExactIsLabelRow.holds Try.pinned (OpenSpec.ofChange fnExactIsLabelSpec)

/-- ITS FALSE NEIGHBOUR: 'it returns false'. Refute it at one input. -/
def fnExactIsLabelWrong : ChangeSpec := { name := "fnExactIsLabel", fn := fun _ => fun
  | [d] => { results := [.lit (.bool false)], args := [d] }
  | _ => none }
def FnExactIsLabelWrongFalsely : Prop := fnExactIsLabelRow.holds Try.pinned (OpenSpec.ofChange fnExactIsLabelWrong)

/-- 'laws.FnExactNormalSpots': WHATEVER THE INPUT: true; the input reads as it did. -/
def fnExactNormalSpotsSpec : ChangeSpec := { name := "fnExactNormalSpots", fn := fun _ => fun
  | [d1, d2] => { results := [.lit (.bool true)], args := [d1, d2] }
  | _ => none }
def fnExactNormalSpotsRow : OpenClaim := { program := "ytoaeclnhhciimaa", sum := "9f83d7516914729b94ca95c5222e54cc743476923c6ccedd3af1f87fe1752727", func := "loop.example/g00918/laws.FnExactNormalSpots", spec := "fnExactNormalSpots", apart := false }
def FnExactNormalSpotsSaid : Prop := fnExactNormalSpotsRow.holds Try.pinned (OpenSpec.ofChange fnExactNormalSpotsSpec)

/-- ITS FALSE NEIGHBOUR: 'it returns false'. Refute it at one input. -/
def fnExactNormalSpotsWrong : ChangeSpec := { name := "fnExactNormalSpots", fn := fun _ => fun
  | [d1, d2] => { results := [.lit (.bool false)], args := [d1, d2] }
  | _ => none }
def FnExactNormalSpotsWrongFalsely : Prop := fnExactNormalSpotsRow.holds Try.pinned (OpenSpec.ofChange fnExactNormalSpotsWrong)

/-- 'laws.FnExactSpotsOf': WHATEVER THE INPUT: true; the input reads as it did. -/
def fnExactSpotsOfSpec : ChangeSpec := { name := "fnExactSpotsOf", fn := fun _ => fun
  | [d] => { results := [.lit (.bool true)], args := [d] }
  | _ => none }
def fnExactSpotsOfRow : OpenClaim := { program := "ytoaeclnhhciimaa", sum := "9f83d7516914729b94ca95c5222e54cc743476923c6ccedd3af1f87fe1752727", func := "loop.example/g00918/laws.FnExactSpotsOf", spec := "fnExactSpotsOf", apart := false }
def FnExactSpotsOfSaid : Prop := fnExactSpotsOfRow.holds Try.pinned (OpenSpec.ofChange fnExactSpotsOfSpec)

/-- ITS FALSE NEIGHBOUR: 'it returns false'. Refute it at one input. -/
def fnExactSpotsOfWrong : ChangeSpec := { name := "fnExactSpotsOf", fn := fun _ => fun
  | [d] => { results := [.lit (.bool false)], args := [d] }
  | _ => none }
def FnExactSpotsOfWrongFalsely : Prop := fnExactSpotsOfRow.holds Try.pinned (OpenSpec.ofChange fnExactSpotsOfWrong)

/-- 'laws.FnExactPartElastic': WHATEVER THE INPUT: true; the input reads as it did. -/
def fnExactPartElasticSpec : ChangeSpec := { name := "fnExactPartElastic", fn := fun _ => fun
  | [d1, d2] => { results := [.lit (.bool true)], args := [d1, d2] }
  | _ => none }
def fnExactPartElasticRow : OpenClaim := { program := "ytoaeclnhhciimaa", sum := "9f83d7516914729b94ca95c5222e54cc743476923c6ccedd3af1f87fe1752727", func := "loop.example/g00918/laws.FnExactPartElastic", spec := "fnExactPartElastic", unfollowed := true, recurses := true, apart := false }
def FnExactPartElasticSaid : Prop := fnExactPartElasticRow.holds Try.pinned (OpenSpec.ofChange fnExactPartElasticSpec)

/-- ITS FALSE NEIGHBOUR: 'it returns false'. Refute it at one input. -/
def fnExactPartElasticWrong : ChangeSpec := { name := "fnExactPartElastic", fn := fun _ => fun
  | [d1, d2] => { results := [.lit (.bool false)], args := [d1, d2] }
  | _ => none }
def FnExactPartElasticWrongFalsely : Prop := fnExactPartElasticRow.holds Try.pinned (OpenSpec.ofChange fnExactPartElasticWrong)

/-- 'laws.FnExactElastic': WHATEVER THE INPUT: true; the input reads as it did. -/
def fnExactElasticSpec : ChangeSpec := { name := "fnExactElastic", fn := fun _ => fun
  | [d1, d2, d3] => { results := [.lit (.bool true)], args := [d1, d2, d3] }
  | _ => none }
def fnExactElasticRow : OpenClaim := { program := "ytoaeclnhhciimaa", sum := "9f83d7516914729b94ca95c5222e54cc743476923c6ccedd3af1f87fe1752727", func := "loop.example/g00918/laws.FnExactElastic", spec := "fnExactElastic", unfollowed := true, recurses := true, apart := false }
def FnExactElasticSaid : Prop := fnExactElasticRow.holds Try.pinned (OpenSpec.ofChange fnExactElasticSpec)

/-- ITS FALSE NEIGHBOUR: 'it returns false'. Refute it at one input. -/
def fnExactElasticWrong : ChangeSpec := { name := "fnExactElastic", fn := fun _ => fun
  | [d1, d2, d3] => { results := [.lit (.bool false)], args := [d1, d2, d3] }
  | _ => none }
def FnExactElasticWrongFalsely : Prop := fnExactElasticRow.holds Try.pinned (OpenSpec.ofChange fnExactElasticWrong)

/-- 'laws.FnExactOutsideOf': WHATEVER THE INPUT: true; the input reads as it did. -/
def fnExactOutsideOfSpec : ChangeSpec := { name := "fnExactOutsideOf", fn := fun _ => fun
  | [d1, d2] => { results := [.lit (.bool true)], args := [d1, d2] }
  | _ => none }
def fnExactOutsideOfRow : OpenClaim := { program := "ytoaeclnhhciimaa", sum := "9f83d7516914729b94ca95c5222e54cc743476923c6ccedd3af1f87fe1752727", func := "loop.example/g00918/laws.FnExactOutsideOf", spec := "fnExactOutsideOf", unfollowed := true, recurses := true, apart := false }
def FnExactOutsideOfSaid : Prop := fnExactOutsideOfRow.holds Try.pinned (OpenSpec.ofChange fnExactOutsideOfSpec)

/-- ITS FALSE NEIGHBOUR: 'it returns false'. Refute it at one input. -/
def fnExactOutsideOfWrong : ChangeSpec := { name := "fnExactOutsideOf", fn := fun _ => fun
  | [d1, d2] => { results := [.lit (.bool false)], args := [d1, d2] }
  | _ => none }
def FnExactOutsideOfWrongFalsely : Prop := fnExactOutsideOfRow.holds Try.pinned (OpenSpec.ofChange fnExactOutsideOfWrong)

/-- 'laws.FnExactLowerBound': WHATEVER THE INPUT: true; the input reads as it did. -/
def fnExactLowerBoundSpec : ChangeSpec := { name := "fnExactLowerBound", fn := fun _ => fun
  | [d1, d2, d3] => { results := [.lit (.bool true)], args := [d1, d2, d3] }
  | _ => none }
def fnExactLowerBoundRow : OpenClaim := { program := "ytoaeclnhhciimaa", sum := "9f83d7516914729b94ca95c5222e54cc743476923c6ccedd3af1f87fe1752727", func := "loop.example/g00918/laws.FnExactLowerBound", spec := "fnExactLowerBound", unfollowed := true, recurses := true, apart := false }
def FnExactLowerBoundSaid : Prop := fnExactLowerBoundRow.holds Try.pinned (OpenSpec.ofChange fnExactLowerBoundSpec)

/-- ITS FALSE NEIGHBOUR: 'it returns false'. Refute it at one input. -/
def fnExactLowerBoundWrong : ChangeSpec := { name := "fnExactLowerBound", fn := fun _ => fun
  | [d1, d2, d3] => { results := [.lit (.bool false)], args := [d1, d2, d3] }
  | _ => none }
def FnExactLowerBoundWrongFalsely : Prop := fnExactLowerBoundRow.holds Try.pinned (OpenSpec.ofChange fnExactLowerBoundWrong)

/-- 'laws.FnExactEnvelopeOf': WHATEVER THE INPUT: true; the input reads as it did. -/
def fnExactEnvelopeOfSpec : ChangeSpec := { name := "fnExactEnvelopeOf", fn := fun _ => fun
  | [d1, d2, d3] => { results := [.lit (.bool true)], args := [d1, d2, d3] }
  | _ => none }
def fnExactEnvelopeOfRow : OpenClaim := { program := "ytoaeclnhhciimaa", sum := "9f83d7516914729b94ca95c5222e54cc743476923c6ccedd3af1f87fe1752727", func := "loop.example/g00918/laws.FnExactEnvelopeOf", spec := "fnExactEnvelopeOf", unfollowed := true, recurses := true, apart := false }
def FnExactEnvelopeOfSaid : Prop := fnExactEnvelopeOfRow.holds Try.pinned (OpenSpec.ofChange fnExactEnvelopeOfSpec)

/-- ITS FALSE NEIGHBOUR: 'it returns false'. Refute it at one input. -/
def fnExactEnvelopeOfWrong : ChangeSpec := { name := "fnExactEnvelopeOf", fn := fun _ => fun
  | [d1, d2, d3] => { results := [.lit (.bool false)], args := [d1, d2, d3] }
  | _ => none }
def FnExactEnvelopeOfWrongFalsely : Prop := fnExactEnvelopeOfRow.holds Try.pinned (OpenSpec.ofChange fnExactEnvelopeOfWrong)

/-- 'laws.FnExactBlendFeats': WHATEVER THE INPUT: true; the input reads as it did. -/
def fnExactBlendFeatsSpec : ChangeSpec := { name := "fnExactBlendFeats", fn := fun _ => fun
  | [d1, d2, d3] => { results := [.lit (.bool true)], args := [d1, d2, d3] }
  | _ => none }
def fnExactBlendFeatsRow : OpenClaim := { program := "ytoaeclnhhciimaa", sum := "9f83d7516914729b94ca95c5222e54cc743476923c6ccedd3af1f87fe1752727", func := "loop.example/g00918/laws.FnExactBlendFeats", spec := "fnExactBlendFeats", unfollowed := true, recurses := true, apart := false }
def FnExactBlendFeatsSaid : Prop := fnExactBlendFeatsRow.holds Try.pinned (OpenSpec.ofChange fnExactBlendFeatsSpec)

/-- ITS FALSE NEIGHBOUR: 'it returns false'. Refute it at one input. -/
def fnExactBlendFeatsWrong : ChangeSpec := { name := "fnExactBlendFeats", fn := fun _ => fun
  | [d1, d2, d3] => { results := [.lit (.bool false)], args := [d1, d2, d3] }
  | _ => none }
def FnExactBlendFeatsWrongFalsely : Prop := fnExactBlendFeatsRow.holds Try.pinned (OpenSpec.ofChange fnExactBlendFeatsWrong)

/-- 'laws.FnExactElasticPath': WHATEVER THE INPUT: true; the input reads as it did. -/
def fnExactElasticPathSpec : ChangeSpec := { name := "fnExactElasticPath", fn := fun _ => fun
  | [d1, d2, d3] => { results := [.lit (.bool true)], args := [d1, d2, d3] }
  | _ => none }
def fnExactElasticPathRow : OpenClaim := { program := "ytoaeclnhhciimaa", sum := "9f83d7516914729b94ca95c5222e54cc743476923c6ccedd3af1f87fe1752727", func := "loop.example/g00918/laws.FnExactElasticPath", spec := "fnExactElasticPath", unfollowed := true, recurses := true, apart := false }
def FnExactElasticPathSaid : Prop := fnExactElasticPathRow.holds Try.pinned (OpenSpec.ofChange fnExactElasticPathSpec)

/-- ITS FALSE NEIGHBOUR: 'it returns false'. Refute it at one input. -/
def fnExactElasticPathWrong : ChangeSpec := { name := "fnExactElasticPath", fn := fun _ => fun
  | [d1, d2, d3] => { results := [.lit (.bool false)], args := [d1, d2, d3] }
  | _ => none }
def FnExactElasticPathWrongFalsely : Prop := fnExactElasticPathRow.holds Try.pinned (OpenSpec.ofChange fnExactElasticPathWrong)

/- THE SECOND FORM. 'bulk': how many values and letters a reading holds, each counted each time it is reached (what is shared counts as often as it is met; a slice's spare places count too). A statement '..UptoSaid' is the law's where the arguments, and the package variables that the reading takes, are together of bulk at most 1048576: NARROWER than '..Said'. Prove '..Said' where nothing that the law and all that it calls make is longer than what came in: it says more and counts as full. Else prove '..UptoSaid'. A law counts once. -/
mutual
def uptoBulk {H : Type} : DataW H → Nat
  | .lit (.string bytes) => bytes.length + 1
  | .lit _ => 1
  | .nil => 1
  | .ptr d => uptoBulk d + 1
  | .slice elems spare => uptoBulkAll elems + uptoBulkAll spare + 1
  | .agg parts => uptoBulkAll parts + 1
  | .iface _ d => uptoBulk d + 1
  | .map entries => uptoBulkEntries entries + 1
  | .held _ => 1
def uptoBulkAll {H : Type} : List (DataW H) → Nat
  | [] => 0
  | d :: r => uptoBulk d + uptoBulkAll r
def uptoBulkEntries {H : Type} : List (Lit × DataW H) → Nat
  | [] => 0
  | x :: r => uptoBulkEntry x + uptoBulkEntries r
def uptoBulkEntry {H : Type} : Lit × DataW H → Nat
  | (.string bytes, d) => bytes.length + uptoBulk d + 1
  | (_, d) => uptoBulk d + 1
 end
def uptoSmall : (H : Type) → List (DataW H) → Bool := fun _ ds => decide (uptoBulkAll ds ≤ 1048576)
def OpenSpec.upto (s : _root_.Go.ChangeSpec) : _root_.Go.OpenSpec := { _root_.Go.OpenSpec.ofChange s with cond := some uptoSmall }

/-- 'laws.FnExactValidEnvelope', WHERE WHAT IT READS IS OF BULK AT MOST 1048576: true; the input reads as it did. -/
def fnExactValidEnvelopeUptoRow : OpenClaim := { program := "ytoaeclnhhciimaa", sum := "9f83d7516914729b94ca95c5222e54cc743476923c6ccedd3af1f87fe1752727", func := "loop.example/g00918/laws.FnExactValidEnvelope", spec := "fnExactValidEnvelope", apart := false, narrowed := true }
def FnExactValidEnvelopeUptoSaid : Prop := fnExactValidEnvelopeUptoRow.holds Try.pinned (OpenSpec.upto fnExactValidEnvelopeSpec)

/-- 'laws.FnExactBoxOfSpots', WHERE WHAT IT READS IS OF BULK AT MOST 1048576: true; the input reads as it did. -/
def fnExactBoxOfSpotsUptoRow : OpenClaim := { program := "ytoaeclnhhciimaa", sum := "9f83d7516914729b94ca95c5222e54cc743476923c6ccedd3af1f87fe1752727", func := "loop.example/g00918/laws.FnExactBoxOfSpots", spec := "fnExactBoxOfSpots", apart := false, narrowed := true }
def FnExactBoxOfSpotsUptoSaid : Prop := fnExactBoxOfSpotsUptoRow.holds Try.pinned (OpenSpec.upto fnExactBoxOfSpotsSpec)

/-- 'laws.FnExactIsLabel', WHERE WHAT IT READS IS OF BULK AT MOST 1048576: true; the input reads as it did. -/
def fnExactIsLabelUptoRow : OpenClaim := { program := "ytoaeclnhhciimaa", sum := "9f83d7516914729b94ca95c5222e54cc743476923c6ccedd3af1f87fe1752727", func := "loop.example/g00918/laws.FnExactIsLabel", spec := "fnExactIsLabel", inPlace := ["internal/bytealg.IndexByteString", "internal/bytealg.IndexString"], named := ["internal/bytealg.MaxLen"], apart := false, narrowed := true }
def FnExactIsLabelUptoSaid : Prop := fnExactIsLabelUptoRow.holds Try.pinned (OpenSpec.upto fnExactIsLabelSpec)

/-- 'laws.FnExactNormalSpots', WHERE WHAT IT READS IS OF BULK AT MOST 1048576: true; the input reads as it did. -/
def fnExactNormalSpotsUptoRow : OpenClaim := { program := "ytoaeclnhhciimaa", sum := "9f83d7516914729b94ca95c5222e54cc743476923c6ccedd3af1f87fe1752727", func := "loop.example/g00918/laws.FnExactNormalSpots", spec := "fnExactNormalSpots", apart := false, narrowed := true }
def FnExactNormalSpotsUptoSaid : Prop := fnExactNormalSpotsUptoRow.holds Try.pinned (OpenSpec.upto fnExactNormalSpotsSpec)

/-- 'laws.FnExactSpotsOf', WHERE WHAT IT READS IS OF BULK AT MOST 1048576: true; the input reads as it did. -/
def fnExactSpotsOfUptoRow : OpenClaim := { program := "ytoaeclnhhciimaa", sum := "9f83d7516914729b94ca95c5222e54cc743476923c6ccedd3af1f87fe1752727", func := "loop.example/g00918/laws.FnExactSpotsOf", spec := "fnExactSpotsOf", apart := false, narrowed := true }
def FnExactSpotsOfUptoSaid : Prop := fnExactSpotsOfUptoRow.holds Try.pinned (OpenSpec.upto fnExactSpotsOfSpec)

/-- 'laws.FnExactPartElastic', WHERE WHAT IT READS IS OF BULK AT MOST 1048576: true; the input reads as it did. -/
def fnExactPartElasticUptoRow : OpenClaim := { program := "ytoaeclnhhciimaa", sum := "9f83d7516914729b94ca95c5222e54cc743476923c6ccedd3af1f87fe1752727", func := "loop.example/g00918/laws.FnExactPartElastic", spec := "fnExactPartElastic", unfollowed := true, recurses := true, apart := false, narrowed := true }
def FnExactPartElasticUptoSaid : Prop := fnExactPartElasticUptoRow.holds Try.pinned (OpenSpec.upto fnExactPartElasticSpec)

/-- 'laws.FnExactElastic', WHERE WHAT IT READS IS OF BULK AT MOST 1048576: true; the input reads as it did. -/
def fnExactElasticUptoRow : OpenClaim := { program := "ytoaeclnhhciimaa", sum := "9f83d7516914729b94ca95c5222e54cc743476923c6ccedd3af1f87fe1752727", func := "loop.example/g00918/laws.FnExactElastic", spec := "fnExactElastic", unfollowed := true, recurses := true, apart := false, narrowed := true }
def FnExactElasticUptoSaid : Prop := fnExactElasticUptoRow.holds Try.pinned (OpenSpec.upto fnExactElasticSpec)

/-- 'laws.FnExactOutsideOf', WHERE WHAT IT READS IS OF BULK AT MOST 1048576: true; the input reads as it did. -/
def fnExactOutsideOfUptoRow : OpenClaim := { program := "ytoaeclnhhciimaa", sum := "9f83d7516914729b94ca95c5222e54cc743476923c6ccedd3af1f87fe1752727", func := "loop.example/g00918/laws.FnExactOutsideOf", spec := "fnExactOutsideOf", unfollowed := true, recurses := true, apart := false, narrowed := true }
def FnExactOutsideOfUptoSaid : Prop := fnExactOutsideOfUptoRow.holds Try.pinned (OpenSpec.upto fnExactOutsideOfSpec)

/-- 'laws.FnExactLowerBound', WHERE WHAT IT READS IS OF BULK AT MOST 1048576: true; the input reads as it did. -/
def fnExactLowerBoundUptoRow : OpenClaim := { program := "ytoaeclnhhciimaa", sum := "9f83d7516914729b94ca95c5222e54cc743476923c6ccedd3af1f87fe1752727", func := "loop.example/g00918/laws.FnExactLowerBound", spec := "fnExactLowerBound", unfollowed := true, recurses := true, apart := false, narrowed := true }
def FnExactLowerBoundUptoSaid : Prop := fnExactLowerBoundUptoRow.holds Try.pinned (OpenSpec.upto fnExactLowerBoundSpec)

/-- 'laws.FnExactEnvelopeOf', WHERE WHAT IT READS IS OF BULK AT MOST 1048576: true; the input reads as it did. -/
def fnExactEnvelopeOfUptoRow : OpenClaim := { program := "ytoaeclnhhciimaa", sum := "9f83d7516914729b94ca95c5222e54cc743476923c6ccedd3af1f87fe1752727", func := "loop.example/g00918/laws.FnExactEnvelopeOf", spec := "fnExactEnvelopeOf", unfollowed := true, recurses := true, apart := false, narrowed := true }
def FnExactEnvelopeOfUptoSaid : Prop := fnExactEnvelopeOfUptoRow.holds Try.pinned (OpenSpec.upto fnExactEnvelopeOfSpec)

/-- 'laws.FnExactBlendFeats', WHERE WHAT IT READS IS OF BULK AT MOST 1048576: true; the input reads as it did. -/
def fnExactBlendFeatsUptoRow : OpenClaim := { program := "ytoaeclnhhciimaa", sum := "9f83d7516914729b94ca95c5222e54cc743476923c6ccedd3af1f87fe1752727", func := "loop.example/g00918/laws.FnExactBlendFeats", spec := "fnExactBlendFeats", unfollowed := true, recurses := true, apart := false, narrowed := true }
def FnExactBlendFeatsUptoSaid : Prop := fnExactBlendFeatsUptoRow.holds Try.pinned (OpenSpec.upto fnExactBlendFeatsSpec)

/-- 'laws.FnExactElasticPath', WHERE WHAT IT READS IS OF BULK AT MOST 1048576: true; the input reads as it did. -/
def fnExactElasticPathUptoRow : OpenClaim := { program := "ytoaeclnhhciimaa", sum := "9f83d7516914729b94ca95c5222e54cc743476923c6ccedd3af1f87fe1752727", func := "loop.example/g00918/laws.FnExactElasticPath", spec := "fnExactElasticPath", unfollowed := true, recurses := true, apart := false, narrowed := true }
def FnExactElasticPathUptoSaid : Prop := fnExactElasticPathUptoRow.holds Try.pinned (OpenSpec.upto fnExactElasticPathSpec)

end Rows
end Go.Proofs.Ytoaeclnhhciimaa
