/-
  No cell of these rows narrows 'for every input' (looked for: loops, veiled, ifaces, maps, wideKeys, modest, calm, conditions, laid).
  DERIVED. THE GIVEN ROWS OF THIS SEAT. 12 by the template 'for every input the law returns true; each argument reads behind the call as it read before'; 0 by the template 'total and deterministic' (their statements: YtpeganfbmffjbaaTotals.lean).
  GIVEN WITH THE SEED: the statements are not yours to turn. If you find one false, say at which input.
  Laid BY PROGRAM, IN A SANDBOX (cutbox-rows.mjs): the forced cells as the released guide's own fill.sh prints them over the translation 97cdcf70b9225c75… (all of the seat's roots in one cut). By AI agents, Wed Nov 11 2026. No macro, syntax, notation, axiom, sorry.
-/
import Derived.Test.YtpeganfbmffjbaaChecked
import GoSem.Claim
import GoSem.ClaimJoined
import GoSem.ClaimMapViews
import Derived.JoinedTies
import Derived.KernelRfl
namespace Go.Proofs.Ytpeganfbmffjbaa
/- THE CELL 'sum', in the pinned program and in every row, IS THE sha256 OF THE DUMP (.gsa) THAT YtpeganfbmffjbaaProg.lean LOADS. Nothing in Lean hashes anything: it is a label: what it is worth is what the hold of that sum in a sandbox is worth. -/
noncomputable def Try.pinned : Pinned := { name := "ytpeganfbmffjbaa", sum := "97cdcf70b9225c75e427079492bfcd784d19c4b221b8d0290a814ef6187b8035", checked := Try.checked }
namespace Rows
def none {H : Type} : Left H := { results := [], args := [] }

/-- 'laws.FnExactMiddleFeat': WHATEVER THE INPUT: true; the input reads as it did. -/
def fnExactMiddleFeatSpec : ChangeSpec := { name := "fnExactMiddleFeat", fn := fun _ => fun
  | [d] => { results := [.lit (.bool true)], args := [d] }
  | _ => none }
def fnExactMiddleFeatRow : OpenClaim := { program := "ytpeganfbmffjbaa", sum := "97cdcf70b9225c75e427079492bfcd784d19c4b221b8d0290a814ef6187b8035", func := "loop.example/g00918/laws.FnExactMiddleFeat", spec := "fnExactMiddleFeat", unfollowed := true, recurses := true, apart := false }
def FnExactMiddleFeatSaid : Prop := fnExactMiddleFeatRow.holds Try.pinned (OpenSpec.ofChange fnExactMiddleFeatSpec)

/-- ITS FALSE NEIGHBOUR: 'it returns false'. Refute it at one input. -/
def fnExactMiddleFeatWrong : ChangeSpec := { name := "fnExactMiddleFeat", fn := fun _ => fun
  | [d] => { results := [.lit (.bool false)], args := [d] }
  | _ => none }
def FnExactMiddleFeatWrongFalsely : Prop := fnExactMiddleFeatRow.holds Try.pinned (OpenSpec.ofChange fnExactMiddleFeatWrong)

/-- 'laws.FnExactDirectionCounts': WHATEVER THE INPUT: true; the input reads as it did. -/
def fnExactDirectionCountsSpec : ChangeSpec := { name := "fnExactDirectionCounts", fn := fun _ => fun
  | [d] => { results := [.lit (.bool true)], args := [d] }
  | _ => none }
def fnExactDirectionCountsRow : OpenClaim := { program := "ytpeganfbmffjbaa", sum := "97cdcf70b9225c75e427079492bfcd784d19c4b221b8d0290a814ef6187b8035", func := "loop.example/g00918/laws.FnExactDirectionCounts", spec := "fnExactDirectionCounts", unfollowed := true, recurses := true, apart := false }
def FnExactDirectionCountsSaid : Prop := fnExactDirectionCountsRow.holds Try.pinned (OpenSpec.ofChange fnExactDirectionCountsSpec)

/-- ITS FALSE NEIGHBOUR: 'it returns false'. Refute it at one input. -/
def fnExactDirectionCountsWrong : ChangeSpec := { name := "fnExactDirectionCounts", fn := fun _ => fun
  | [d] => { results := [.lit (.bool false)], args := [d] }
  | _ => none }
def FnExactDirectionCountsWrongFalsely : Prop := fnExactDirectionCountsRow.holds Try.pinned (OpenSpec.ofChange fnExactDirectionCountsWrong)

/-- 'laws.FnExactReversePath': WHATEVER THE INPUT: true; the input reads as it did. -/
def fnExactReversePathSpec : ChangeSpec := { name := "fnExactReversePath", fn := fun _ => fun
  | [d] => { results := [.lit (.bool true)], args := [d] }
  | _ => none }
def fnExactReversePathRow : OpenClaim := { program := "ytpeganfbmffjbaa", sum := "97cdcf70b9225c75e427079492bfcd784d19c4b221b8d0290a814ef6187b8035", func := "loop.example/g00918/laws.FnExactReversePath", spec := "fnExactReversePath", apart := false }
def FnExactReversePathSaid : Prop := fnExactReversePathRow.holds Try.pinned (OpenSpec.ofChange fnExactReversePathSpec)

/-- ITS FALSE NEIGHBOUR: 'it returns false'. Refute it at one input. -/
def fnExactReversePathWrong : ChangeSpec := { name := "fnExactReversePath", fn := fun _ => fun
  | [d] => { results := [.lit (.bool false)], args := [d] }
  | _ => none }
def FnExactReversePathWrongFalsely : Prop := fnExactReversePathRow.holds Try.pinned (OpenSpec.ofChange fnExactReversePathWrong)

/-- 'laws.FnExactNormalSpots': WHATEVER THE INPUT: true; the input reads as it did. -/
def fnExactNormalSpotsSpec : ChangeSpec := { name := "fnExactNormalSpots", fn := fun _ => fun
  | [d1, d2] => { results := [.lit (.bool true)], args := [d1, d2] }
  | _ => none }
def fnExactNormalSpotsRow : OpenClaim := { program := "ytpeganfbmffjbaa", sum := "97cdcf70b9225c75e427079492bfcd784d19c4b221b8d0290a814ef6187b8035", func := "loop.example/g00918/laws.FnExactNormalSpots", spec := "fnExactNormalSpots", apart := false }
def FnExactNormalSpotsSaid : Prop := fnExactNormalSpotsRow.holds Try.pinned (OpenSpec.ofChange fnExactNormalSpotsSpec)

/-- ITS FALSE NEIGHBOUR: 'it returns false'. Refute it at one input. -/
def fnExactNormalSpotsWrong : ChangeSpec := { name := "fnExactNormalSpots", fn := fun _ => fun
  | [d1, d2] => { results := [.lit (.bool false)], args := [d1, d2] }
  | _ => none }
def FnExactNormalSpotsWrongFalsely : Prop := fnExactNormalSpotsRow.holds Try.pinned (OpenSpec.ofChange fnExactNormalSpotsWrong)

/-- 'laws.FnExactPartElastic': WHATEVER THE INPUT: true; the input reads as it did. -/
def fnExactPartElasticSpec : ChangeSpec := { name := "fnExactPartElastic", fn := fun _ => fun
  | [d1, d2] => { results := [.lit (.bool true)], args := [d1, d2] }
  | _ => none }
def fnExactPartElasticRow : OpenClaim := { program := "ytpeganfbmffjbaa", sum := "97cdcf70b9225c75e427079492bfcd784d19c4b221b8d0290a814ef6187b8035", func := "loop.example/g00918/laws.FnExactPartElastic", spec := "fnExactPartElastic", unfollowed := true, recurses := true, apart := false }
def FnExactPartElasticSaid : Prop := fnExactPartElasticRow.holds Try.pinned (OpenSpec.ofChange fnExactPartElasticSpec)

/-- ITS FALSE NEIGHBOUR: 'it returns false'. Refute it at one input. -/
def fnExactPartElasticWrong : ChangeSpec := { name := "fnExactPartElastic", fn := fun _ => fun
  | [d1, d2] => { results := [.lit (.bool false)], args := [d1, d2] }
  | _ => none }
def FnExactPartElasticWrongFalsely : Prop := fnExactPartElasticRow.holds Try.pinned (OpenSpec.ofChange fnExactPartElasticWrong)

/-- 'laws.FnExactElastic': WHATEVER THE INPUT: true; the input reads as it did. -/
def fnExactElasticSpec : ChangeSpec := { name := "fnExactElastic", fn := fun _ => fun
  | [d1, d2, d3] => { results := [.lit (.bool true)], args := [d1, d2, d3] }
  | _ => none }
def fnExactElasticRow : OpenClaim := { program := "ytpeganfbmffjbaa", sum := "97cdcf70b9225c75e427079492bfcd784d19c4b221b8d0290a814ef6187b8035", func := "loop.example/g00918/laws.FnExactElastic", spec := "fnExactElastic", unfollowed := true, recurses := true, apart := false }
def FnExactElasticSaid : Prop := fnExactElasticRow.holds Try.pinned (OpenSpec.ofChange fnExactElasticSpec)

/-- ITS FALSE NEIGHBOUR: 'it returns false'. Refute it at one input. -/
def fnExactElasticWrong : ChangeSpec := { name := "fnExactElastic", fn := fun _ => fun
  | [d1, d2, d3] => { results := [.lit (.bool false)], args := [d1, d2, d3] }
  | _ => none }
def FnExactElasticWrongFalsely : Prop := fnExactElasticRow.holds Try.pinned (OpenSpec.ofChange fnExactElasticWrong)

/-- 'laws.FnExactOutsideOf': WHATEVER THE INPUT: true; the input reads as it did. -/
def fnExactOutsideOfSpec : ChangeSpec := { name := "fnExactOutsideOf", fn := fun _ => fun
  | [d1, d2] => { results := [.lit (.bool true)], args := [d1, d2] }
  | _ => none }
def fnExactOutsideOfRow : OpenClaim := { program := "ytpeganfbmffjbaa", sum := "97cdcf70b9225c75e427079492bfcd784d19c4b221b8d0290a814ef6187b8035", func := "loop.example/g00918/laws.FnExactOutsideOf", spec := "fnExactOutsideOf", unfollowed := true, recurses := true, apart := false }
def FnExactOutsideOfSaid : Prop := fnExactOutsideOfRow.holds Try.pinned (OpenSpec.ofChange fnExactOutsideOfSpec)

/-- ITS FALSE NEIGHBOUR: 'it returns false'. Refute it at one input. -/
def fnExactOutsideOfWrong : ChangeSpec := { name := "fnExactOutsideOf", fn := fun _ => fun
  | [d1, d2] => { results := [.lit (.bool false)], args := [d1, d2] }
  | _ => none }
def FnExactOutsideOfWrongFalsely : Prop := fnExactOutsideOfRow.holds Try.pinned (OpenSpec.ofChange fnExactOutsideOfWrong)

/-- 'laws.FnExactPathCost': WHATEVER THE INPUT: true; the input reads as it did. -/
def fnExactPathCostSpec : ChangeSpec := { name := "fnExactPathCost", fn := fun _ => fun
  | [d1, d2, d3] => { results := [.lit (.bool true)], args := [d1, d2, d3] }
  | _ => none }
def fnExactPathCostRow : OpenClaim := { program := "ytpeganfbmffjbaa", sum := "97cdcf70b9225c75e427079492bfcd784d19c4b221b8d0290a814ef6187b8035", func := "loop.example/g00918/laws.FnExactPathCost", spec := "fnExactPathCost", unfollowed := true, recurses := true, apart := false }
def FnExactPathCostSaid : Prop := fnExactPathCostRow.holds Try.pinned (OpenSpec.ofChange fnExactPathCostSpec)

/-- ITS FALSE NEIGHBOUR: 'it returns false'. Refute it at one input. -/
def fnExactPathCostWrong : ChangeSpec := { name := "fnExactPathCost", fn := fun _ => fun
  | [d1, d2, d3] => { results := [.lit (.bool false)], args := [d1, d2, d3] }
  | _ => none }
def FnExactPathCostWrongFalsely : Prop := fnExactPathCostRow.holds Try.pinned (OpenSpec.ofChange fnExactPathCostWrong)

/-- 'laws.FnExactLowerBound': WHATEVER THE INPUT: true; the input reads as it did. -/
def fnExactLowerBoundSpec : ChangeSpec := { name := "fnExactLowerBound", fn := fun _ => fun
  | [d1, d2, d3] => { results := [.lit (.bool true)], args := [d1, d2, d3] }
  | _ => none }
def fnExactLowerBoundRow : OpenClaim := { program := "ytpeganfbmffjbaa", sum := "97cdcf70b9225c75e427079492bfcd784d19c4b221b8d0290a814ef6187b8035", func := "loop.example/g00918/laws.FnExactLowerBound", spec := "fnExactLowerBound", unfollowed := true, recurses := true, apart := false }
def FnExactLowerBoundSaid : Prop := fnExactLowerBoundRow.holds Try.pinned (OpenSpec.ofChange fnExactLowerBoundSpec)

/-- ITS FALSE NEIGHBOUR: 'it returns false'. Refute it at one input. -/
def fnExactLowerBoundWrong : ChangeSpec := { name := "fnExactLowerBound", fn := fun _ => fun
  | [d1, d2, d3] => { results := [.lit (.bool false)], args := [d1, d2, d3] }
  | _ => none }
def FnExactLowerBoundWrongFalsely : Prop := fnExactLowerBoundRow.holds Try.pinned (OpenSpec.ofChange fnExactLowerBoundWrong)

/-- 'laws.FnExactEnvelopeOf': WHATEVER THE INPUT: true; the input reads as it did. -/
def fnExactEnvelopeOfSpec : ChangeSpec := { name := "fnExactEnvelopeOf", fn := fun _ => fun
  | [d1, d2, d3] => { results := [.lit (.bool true)], args := [d1, d2, d3] }
  | _ => none }
def fnExactEnvelopeOfRow : OpenClaim := { program := "ytpeganfbmffjbaa", sum := "97cdcf70b9225c75e427079492bfcd784d19c4b221b8d0290a814ef6187b8035", func := "loop.example/g00918/laws.FnExactEnvelopeOf", spec := "fnExactEnvelopeOf", unfollowed := true, recurses := true, apart := false }
def FnExactEnvelopeOfSaid : Prop := fnExactEnvelopeOfRow.holds Try.pinned (OpenSpec.ofChange fnExactEnvelopeOfSpec)

/-- ITS FALSE NEIGHBOUR: 'it returns false'. Refute it at one input. -/
def fnExactEnvelopeOfWrong : ChangeSpec := { name := "fnExactEnvelopeOf", fn := fun _ => fun
  | [d1, d2, d3] => { results := [.lit (.bool false)], args := [d1, d2, d3] }
  | _ => none }
def FnExactEnvelopeOfWrongFalsely : Prop := fnExactEnvelopeOfRow.holds Try.pinned (OpenSpec.ofChange fnExactEnvelopeOfWrong)

/-- 'laws.FnExactBlendFeats': WHATEVER THE INPUT: true; the input reads as it did. -/
def fnExactBlendFeatsSpec : ChangeSpec := { name := "fnExactBlendFeats", fn := fun _ => fun
  | [d1, d2, d3] => { results := [.lit (.bool true)], args := [d1, d2, d3] }
  | _ => none }
def fnExactBlendFeatsRow : OpenClaim := { program := "ytpeganfbmffjbaa", sum := "97cdcf70b9225c75e427079492bfcd784d19c4b221b8d0290a814ef6187b8035", func := "loop.example/g00918/laws.FnExactBlendFeats", spec := "fnExactBlendFeats", unfollowed := true, recurses := true, apart := false }
def FnExactBlendFeatsSaid : Prop := fnExactBlendFeatsRow.holds Try.pinned (OpenSpec.ofChange fnExactBlendFeatsSpec)

/-- ITS FALSE NEIGHBOUR: 'it returns false'. Refute it at one input. -/
def fnExactBlendFeatsWrong : ChangeSpec := { name := "fnExactBlendFeats", fn := fun _ => fun
  | [d1, d2, d3] => { results := [.lit (.bool false)], args := [d1, d2, d3] }
  | _ => none }
def FnExactBlendFeatsWrongFalsely : Prop := fnExactBlendFeatsRow.holds Try.pinned (OpenSpec.ofChange fnExactBlendFeatsWrong)

/-- 'laws.FnExactElasticPath': WHATEVER THE INPUT: true; the input reads as it did. -/
def fnExactElasticPathSpec : ChangeSpec := { name := "fnExactElasticPath", fn := fun _ => fun
  | [d1, d2, d3] => { results := [.lit (.bool true)], args := [d1, d2, d3] }
  | _ => none }
def fnExactElasticPathRow : OpenClaim := { program := "ytpeganfbmffjbaa", sum := "97cdcf70b9225c75e427079492bfcd784d19c4b221b8d0290a814ef6187b8035", func := "loop.example/g00918/laws.FnExactElasticPath", spec := "fnExactElasticPath", unfollowed := true, recurses := true, apart := false }
def FnExactElasticPathSaid : Prop := fnExactElasticPathRow.holds Try.pinned (OpenSpec.ofChange fnExactElasticPathSpec)

/-- ITS FALSE NEIGHBOUR: 'it returns false'. Refute it at one input. -/
def fnExactElasticPathWrong : ChangeSpec := { name := "fnExactElasticPath", fn := fun _ => fun
  | [d1, d2, d3] => { results := [.lit (.bool false)], args := [d1, d2, d3] }
  | _ => none }
def FnExactElasticPathWrongFalsely : Prop := fnExactElasticPathRow.holds Try.pinned (OpenSpec.ofChange fnExactElasticPathWrong)

/- THE SECOND FORM. 'bulk': how many values and letters a reading holds, each counted each time it is reached (what is shared counts as often as it is met; a slice's spare places count too). A statement '..UptoSaid' is the law's where the arguments, and the package variables that the reading takes, are together of bulk at most 1048576: NARROWER than '..Said'. Prove '..Said' where nothing that the law and all that it calls make is longer than what came in: it says more and counts as full. Else prove '..UptoSaid'. A law counts once. -/
mutual
def uptoBulk {H : Type} : DataW H → Nat
  | .lit (.string bytes) => bytes.length + 1
  | .lit _ => 1
  | .nil => 1
  | .ptr d => uptoBulk d + 1
  | .slice elems spare => uptoBulkAll elems + uptoBulkAll spare + 1
  | .agg parts => uptoBulkAll parts + 1
  | .iface _ d => uptoBulk d + 1
  | .map entries => uptoBulkEntries entries + 1
  | .held _ => 1
def uptoBulkAll {H : Type} : List (DataW H) → Nat
  | [] => 0
  | d :: r => uptoBulk d + uptoBulkAll r
def uptoBulkEntries {H : Type} : List (Lit × DataW H) → Nat
  | [] => 0
  | x :: r => uptoBulkEntry x + uptoBulkEntries r
def uptoBulkEntry {H : Type} : Lit × DataW H → Nat
  | (.string bytes, d) => bytes.length + uptoBulk d + 1
  | (_, d) => uptoBulk d + 1
 end
def uptoSmall : (H : Type) → List (DataW H) → Bool := fun _ ds => decide (uptoBulkAll ds ≤ 1048576)
def OpenSpec.upto (s : _root_.Go.ChangeSpec) : _root_.Go.OpenSpec := { _root_.Go.OpenSpec.ofChange s with cond := some uptoSmall }

/-- 'laws.FnExactMiddleFeat', WHERE WHAT IT READS IS OF BULK AT MOST 1048576: true; the input reads as it did. -/
def fnExactMiddleFeatUptoRow : OpenClaim := { program := "ytpeganfbmffjbaa", sum := "97cdcf70b9225c75e427079492bfcd784d19c4b221b8d0290a814ef6187b8035", func := "loop.example/g00918/laws.FnExactMiddleFeat", spec := "fnExactMiddleFeat", unfollowed := true, recurses := true, apart := false, narrowed := true }
def FnExactMiddleFeatUptoSaid : Prop := fnExactMiddleFeatUptoRow.holds Try.pinned (OpenSpec.upto fnExactMiddleFeatSpec)

/-- 'laws.FnExactDirectionCounts', WHERE WHAT IT READS IS OF BULK AT MOST 1048576: true; the input reads as it did. -/
def fnExactDirectionCountsUptoRow : OpenClaim := { program := "ytpeganfbmffjbaa", sum := "97cdcf70b9225c75e427079492bfcd784d19c4b221b8d0290a814ef6187b8035", func := "loop.example/g00918/laws.FnExactDirectionCounts", spec := "fnExactDirectionCounts", unfollowed := true, recurses := true, apart := false, narrowed := true }
def FnExactDirectionCountsUptoSaid : Prop := fnExactDirectionCountsUptoRow.holds Try.pinned (OpenSpec.upto fnExactDirectionCountsSpec)

/-- 'laws.FnExactReversePath', WHERE WHAT IT READS IS OF BULK AT MOST 1048576: true; the input reads as it did. -/
def fnExactReversePathUptoRow : OpenClaim := { program := "ytpeganfbmffjbaa", sum := "97cdcf70b9225c75e427079492bfcd784d19c4b221b8d0290a814ef6187b8035", func := "loop.example/g00918/laws.FnExactReversePath", spec := "fnExactReversePath", apart := false, narrowed := true }
def FnExactReversePathUptoSaid : Prop := fnExactReversePathUptoRow.holds Try.pinned (OpenSpec.upto fnExactReversePathSpec)

/-- 'laws.FnExactNormalSpots', WHERE WHAT IT READS IS OF BULK AT MOST 1048576: true; the input reads as it did. -/
def fnExactNormalSpotsUptoRow : OpenClaim := { program := "ytpeganfbmffjbaa", sum := "97cdcf70b9225c75e427079492bfcd784d19c4b221b8d0290a814ef6187b8035", func := "loop.example/g00918/laws.FnExactNormalSpots", spec := "fnExactNormalSpots", apart := false, narrowed := true }
def FnExactNormalSpotsUptoSaid : Prop := fnExactNormalSpotsUptoRow.holds Try.pinned (OpenSpec.upto fnExactNormalSpotsSpec)

/-- 'laws.FnExactPartElastic', WHERE WHAT IT READS IS OF BULK AT MOST 1048576: true; the input reads as it did. -/
def fnExactPartElasticUptoRow : OpenClaim := { program := "ytpeganfbmffjbaa", sum := "97cdcf70b9225c75e427079492bfcd784d19c4b221b8d0290a814ef6187b8035", func := "loop.example/g00918/laws.FnExactPartElastic", spec := "fnExactPartElastic", unfollowed := true, recurses := true, apart := false, narrowed := true }
def FnExactPartElasticUptoSaid : Prop := fnExactPartElasticUptoRow.holds Try.pinned (OpenSpec.upto fnExactPartElasticSpec)

/-- 'laws.FnExactElastic', WHERE WHAT IT READS IS OF BULK AT MOST 1048576: true; the input reads as it did. -/
def fnExactElasticUptoRow : OpenClaim := { program := "ytpeganfbmffjbaa", sum := "97cdcf70b9225c75e427079492bfcd784d19c4b221b8d0290a814ef6187b8035", func := "loop.example/g00918/laws.FnExactElastic", spec := "fnExactElastic", unfollowed := true, recurses := true, apart := false, narrowed := true }
def FnExactElasticUptoSaid : Prop := fnExactElasticUptoRow.holds Try.pinned (OpenSpec.upto fnExactElasticSpec)

/-- 'laws.FnExactOutsideOf', WHERE WHAT IT READS IS OF BULK AT MOST 1048576: true; the input reads as it did. -/
def fnExactOutsideOfUptoRow : OpenClaim := { program := "ytpeganfbmffjbaa", sum := "97cdcf70b9225c75e427079492bfcd784d19c4b221b8d0290a814ef6187b8035", func := "loop.example/g00918/laws.FnExactOutsideOf", spec := "fnExactOutsideOf", unfollowed := true, recurses := true, apart := false, narrowed := true }
def FnExactOutsideOfUptoSaid : Prop := fnExactOutsideOfUptoRow.holds Try.pinned (OpenSpec.upto fnExactOutsideOfSpec)

/-- 'laws.FnExactPathCost', WHERE WHAT IT READS IS OF BULK AT MOST 1048576: true; the input reads as it did. -/
def fnExactPathCostUptoRow : OpenClaim := { program := "ytpeganfbmffjbaa", sum := "97cdcf70b9225c75e427079492bfcd784d19c4b221b8d0290a814ef6187b8035", func := "loop.example/g00918/laws.FnExactPathCost", spec := "fnExactPathCost", unfollowed := true, recurses := true, apart := false, narrowed := true }
def FnExactPathCostUptoSaid : Prop := fnExactPathCostUptoRow.holds Try.pinned (OpenSpec.upto fnExactPathCostSpec)

/-- 'laws.FnExactLowerBound', WHERE WHAT IT READS IS OF BULK AT MOST 1048576: true; the input reads as it did. -/
def fnExactLowerBoundUptoRow : OpenClaim := { program := "ytpeganfbmffjbaa", sum := "97cdcf70b9225c75e427079492bfcd784d19c4b221b8d0290a814ef6187b8035", func := "loop.example/g00918/laws.FnExactLowerBound", spec := "fnExactLowerBound", unfollowed := true, recurses := true, apart := false, narrowed := true }
def FnExactLowerBoundUptoSaid : Prop := fnExactLowerBoundUptoRow.holds Try.pinned (OpenSpec.upto fnExactLowerBoundSpec)

/-- 'laws.FnExactEnvelopeOf', WHERE WHAT IT READS IS OF BULK AT MOST 1048576: true; the input reads as it did. -/
def fnExactEnvelopeOfUptoRow : OpenClaim := { program := "ytpeganfbmffjbaa", sum := "97cdcf70b9225c75e427079492bfcd784d19c4b221b8d0290a814ef6187b8035", func := "loop.example/g00918/laws.FnExactEnvelopeOf", spec := "fnExactEnvelopeOf", unfollowed := true, recurses := true, apart := false, narrowed := true }
def FnExactEnvelopeOfUptoSaid : Prop := fnExactEnvelopeOfUptoRow.holds Try.pinned (OpenSpec.upto fnExactEnvelopeOfSpec)

/-- 'laws.FnExactBlendFeats', WHERE WHAT IT READS IS OF BULK AT MOST 1048576: true; the input reads as it did. -/
def fnExactBlendFeatsUptoRow : OpenClaim := { program := "ytpeganfbmffjbaa", sum := "97cdcf70b9225c75e427079492bfcd784d19c4b221b8d0290a814ef6187b8035", func := "loop.example/g00918/laws.FnExactBlendFeats", spec := "fnExactBlendFeats", unfollowed := true, recurses := true, apart := false, narrowed := true }
def FnExactBlendFeatsUptoSaid : Prop := fnExactBlendFeatsUptoRow.holds Try.pinned (OpenSpec.upto fnExactBlendFeatsSpec)

/-- 'laws.FnExactElasticPath', WHERE WHAT IT READS IS OF BULK AT MOST 1048576: true; the input reads as it did. -/
def fnExactElasticPathUptoRow : OpenClaim := { program := "ytpeganfbmffjbaa", sum := "97cdcf70b9225c75e427079492bfcd784d19c4b221b8d0290a814ef6187b8035", func := "loop.example/g00918/laws.FnExactElasticPath", spec := "fnExactElasticPath", unfollowed := true, recurses := true, apart := false, narrowed := true }
def FnExactElasticPathUptoSaid : Prop := fnExactElasticPathUptoRow.holds Try.pinned (OpenSpec.upto fnExactElasticPathSpec)

end Rows
end Go.Proofs.Ytpeganfbmffjbaa
