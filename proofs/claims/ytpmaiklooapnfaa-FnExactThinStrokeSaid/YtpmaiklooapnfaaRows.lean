/-
  No cell of these rows narrows 'for every input' (looked for: loops, veiled, ifaces, maps, wideKeys, modest, calm, conditions, laid).
  DERIVED. THE GIVEN ROWS OF THIS SEAT. 11 by the template 'for every input the law returns true; each argument reads behind the call as it read before'; 0 by the template 'total and deterministic' (their statements: YtpmaiklooapnfaaTotals.lean).
  GIVEN WITH THE SEED: the statements are not yours to turn. If you find one false, say at which input.
  Laid BY PROGRAM, IN A SANDBOX (cutbox-rows.mjs): the forced cells as the released guide's own fill.sh prints them over the translation 31d1eb9085d1d8aa… (all of the seat's roots in one cut). By AI agents, Wed Nov 11 2026. No macro, syntax, notation, axiom, sorry.
-/
import Derived.Test.YtpmaiklooapnfaaChecked
import GoSem.Claim
import GoSem.ClaimJoined
import GoSem.ClaimMapViews
import Derived.JoinedTies
import Derived.KernelRfl
namespace Go.Proofs.Ytpmaiklooapnfaa
/- THE CELL 'sum', in the pinned program and in every row, IS THE sha256 OF THE DUMP (.gsa) THAT YtpmaiklooapnfaaProg.lean LOADS. Nothing in Lean hashes anything: it is a label: what it is worth is what the hold of that sum in a sandbox is worth. -/
noncomputable def Try.pinned : Pinned := { name := "ytpmaiklooapnfaa", sum := "31d1eb9085d1d8aa7720f8fcb5a5fe9f6973b4d260cf0c4b4362b7887d828b78", checked := Try.checked }
namespace Rows
def none {H : Type} : Left H := { results := [], args := [] }

/-- 'laws.FnExactSmoothStroke': WHATEVER THE INPUT: true; the input reads as it did. -/
def fnExactSmoothStrokeSpec : ChangeSpec := { name := "fnExactSmoothStroke", fn := fun _ => fun
  | [d] => { results := [.lit (.bool true)], args := [d] }
  | _ => none }
def fnExactSmoothStrokeRow : OpenClaim := { program := "ytpmaiklooapnfaa", sum := "31d1eb9085d1d8aa7720f8fcb5a5fe9f6973b4d260cf0c4b4362b7887d828b78", func := "loop.example/g00918/laws.FnExactSmoothStroke", spec := "fnExactSmoothStroke", apart := false }
def FnExactSmoothStrokeSaid : Prop := fnExactSmoothStrokeRow.holds Try.pinned (OpenSpec.ofChange fnExactSmoothStrokeSpec)

/-- ITS FALSE NEIGHBOUR: 'it returns false'. Refute it at one input. -/
def fnExactSmoothStrokeWrong : ChangeSpec := { name := "fnExactSmoothStroke", fn := fun _ => fun
  | [d] => { results := [.lit (.bool false)], args := [d] }
  | _ => none }
def FnExactSmoothStrokeWrongFalsely : Prop := fnExactSmoothStrokeRow.holds Try.pinned (OpenSpec.ofChange fnExactSmoothStrokeWrong)

/-- 'laws.FnExactThinStroke': WHATEVER THE INPUT: true; the input reads as it did. -/
def fnExactThinStrokeSpec : ChangeSpec := { name := "fnExactThinStroke", fn := fun _ => fun
  | [d1, d2] => { results := [.lit (.bool true)], args := [d1, d2] }
  | _ => none }
def fnExactThinStrokeRow : OpenClaim := { program := "ytpmaiklooapnfaa", sum := "31d1eb9085d1d8aa7720f8fcb5a5fe9f6973b4d260cf0c4b4362b7887d828b78", func := "loop.example/g00918/laws.FnExactThinStroke", spec := "fnExactThinStroke", apart := false }
def FnExactThinStrokeSaid : Prop := fnExactThinStrokeRow.holds Try.pinned (OpenSpec.ofChange fnExactThinStrokeSpec)

/-- ITS FALSE NEIGHBOUR: 'it returns false'. Refute it at one input. -/
def fnExactThinStrokeWrong : ChangeSpec := { name := "fnExactThinStroke", fn := fun _ => fun
  | [d1, d2] => { results := [.lit (.bool false)], args := [d1, d2] }
  | _ => none }
def FnExactThinStrokeWrongFalsely : Prop := fnExactThinStrokeRow.holds Try.pinned (OpenSpec.ofChange fnExactThinStrokeWrong)

/-- 'laws.FnExactSpotAt': WHATEVER THE INPUT: true; the input reads as it did. -/
def fnExactSpotAtSpec : ChangeSpec := { name := "fnExactSpotAt", fn := fun _ => fun
  | [d1, d2, d3] => { results := [.lit (.bool true)], args := [d1, d2, d3] }
  | _ => none }
def fnExactSpotAtRow : OpenClaim := { program := "ytpmaiklooapnfaa", sum := "31d1eb9085d1d8aa7720f8fcb5a5fe9f6973b4d260cf0c4b4362b7887d828b78", func := "loop.example/g00918/laws.FnExactSpotAt", spec := "fnExactSpotAt", apart := false }
def FnExactSpotAtSaid : Prop := fnExactSpotAtRow.holds Try.pinned (OpenSpec.ofChange fnExactSpotAtSpec)

/-- ITS FALSE NEIGHBOUR: 'it returns false'. Refute it at one input. -/
def fnExactSpotAtWrong : ChangeSpec := { name := "fnExactSpotAt", fn := fun _ => fun
  | [d1, d2, d3] => { results := [.lit (.bool false)], args := [d1, d2, d3] }
  | _ => none }
def FnExactSpotAtWrongFalsely : Prop := fnExactSpotAtRow.holds Try.pinned (OpenSpec.ofChange fnExactSpotAtWrong)

/-- 'laws.FnExactSlantOf': WHATEVER THE INPUT: true; the input reads as it did. -/
def fnExactSlantOfSpec : ChangeSpec := { name := "fnExactSlantOf", fn := fun _ => fun
  | [d] => { results := [.lit (.bool true)], args := [d] }
  | _ => none }
def fnExactSlantOfRow : OpenClaim := { program := "ytpmaiklooapnfaa", sum := "31d1eb9085d1d8aa7720f8fcb5a5fe9f6973b4d260cf0c4b4362b7887d828b78", func := "loop.example/g00918/laws.FnExactSlantOf", spec := "fnExactSlantOf", apart := false }
def FnExactSlantOfSaid : Prop := fnExactSlantOfRow.holds Try.pinned (OpenSpec.ofChange fnExactSlantOfSpec)

/-- ITS FALSE NEIGHBOUR: 'it returns false'. Refute it at one input. -/
def fnExactSlantOfWrong : ChangeSpec := { name := "fnExactSlantOf", fn := fun _ => fun
  | [d] => { results := [.lit (.bool false)], args := [d] }
  | _ => none }
def FnExactSlantOfWrongFalsely : Prop := fnExactSlantOfRow.holds Try.pinned (OpenSpec.ofChange fnExactSlantOfWrong)

/-- 'laws.FnExactCenterOf': WHATEVER THE INPUT: true; the input reads as it did. -/
def fnExactCenterOfSpec : ChangeSpec := { name := "fnExactCenterOf", fn := fun _ => fun
  | [d] => { results := [.lit (.bool true)], args := [d] }
  | _ => none }
def fnExactCenterOfRow : OpenClaim := { program := "ytpmaiklooapnfaa", sum := "31d1eb9085d1d8aa7720f8fcb5a5fe9f6973b4d260cf0c4b4362b7887d828b78", func := "loop.example/g00918/laws.FnExactCenterOf", spec := "fnExactCenterOf", apart := false }
def FnExactCenterOfSaid : Prop := fnExactCenterOfRow.holds Try.pinned (OpenSpec.ofChange fnExactCenterOfSpec)

/-- ITS FALSE NEIGHBOUR: 'it returns false'. Refute it at one input. -/
def fnExactCenterOfWrong : ChangeSpec := { name := "fnExactCenterOf", fn := fun _ => fun
  | [d] => { results := [.lit (.bool false)], args := [d] }
  | _ => none }
def FnExactCenterOfWrongFalsely : Prop := fnExactCenterOfRow.holds Try.pinned (OpenSpec.ofChange fnExactCenterOfWrong)

/-- 'laws.FnExactStraightenInk': WHATEVER THE INPUT: true; the input reads as it did. -/
def fnExactStraightenInkSpec : ChangeSpec := { name := "fnExactStraightenInk", fn := fun _ => fun
  | [d1, d2, d3] => { results := [.lit (.bool true)], args := [d1, d2, d3] }
  | _ => none }
def fnExactStraightenInkRow : OpenClaim := { program := "ytpmaiklooapnfaa", sum := "31d1eb9085d1d8aa7720f8fcb5a5fe9f6973b4d260cf0c4b4362b7887d828b78", func := "loop.example/g00918/laws.FnExactStraightenInk", spec := "fnExactStraightenInk", unfollowed := true, recurses := true, apart := false }
def FnExactStraightenInkSaid : Prop := fnExactStraightenInkRow.holds Try.pinned (OpenSpec.ofChange fnExactStraightenInkSpec)

/-- ITS FALSE NEIGHBOUR: 'it returns false'. Refute it at one input. -/
def fnExactStraightenInkWrong : ChangeSpec := { name := "fnExactStraightenInk", fn := fun _ => fun
  | [d1, d2, d3] => { results := [.lit (.bool false)], args := [d1, d2, d3] }
  | _ => none }
def FnExactStraightenInkWrongFalsely : Prop := fnExactStraightenInkRow.holds Try.pinned (OpenSpec.ofChange fnExactStraightenInkWrong)

/-- 'laws.FnExactResample': WHATEVER THE INPUT: true; the input reads as it did. -/
def fnExactResampleSpec : ChangeSpec := { name := "fnExactResample", fn := fun _ => fun
  | [d1, d2] => { results := [.lit (.bool true)], args := [d1, d2] }
  | _ => none }
def fnExactResampleRow : OpenClaim := { program := "ytpmaiklooapnfaa", sum := "31d1eb9085d1d8aa7720f8fcb5a5fe9f6973b4d260cf0c4b4362b7887d828b78", func := "loop.example/g00918/laws.FnExactResample", spec := "fnExactResample", apart := false }
def FnExactResampleSaid : Prop := fnExactResampleRow.holds Try.pinned (OpenSpec.ofChange fnExactResampleSpec)

/-- ITS FALSE NEIGHBOUR: 'it returns false'. Refute it at one input. -/
def fnExactResampleWrong : ChangeSpec := { name := "fnExactResample", fn := fun _ => fun
  | [d1, d2] => { results := [.lit (.bool false)], args := [d1, d2] }
  | _ => none }
def FnExactResampleWrongFalsely : Prop := fnExactResampleRow.holds Try.pinned (OpenSpec.ofChange fnExactResampleWrong)

/-- 'laws.FnExactFitInk': WHATEVER THE INPUT: true; the input reads as it did. -/
def fnExactFitInkSpec : ChangeSpec := { name := "fnExactFitInk", fn := fun _ => fun
  | [d1, d2] => { results := [.lit (.bool true)], args := [d1, d2] }
  | _ => none }
def fnExactFitInkRow : OpenClaim := { program := "ytpmaiklooapnfaa", sum := "31d1eb9085d1d8aa7720f8fcb5a5fe9f6973b4d260cf0c4b4362b7887d828b78", func := "loop.example/g00918/laws.FnExactFitInk", spec := "fnExactFitInk", unfollowed := true, recurses := true, apart := false }
def FnExactFitInkSaid : Prop := fnExactFitInkRow.holds Try.pinned (OpenSpec.ofChange fnExactFitInkSpec)

/-- ITS FALSE NEIGHBOUR: 'it returns false'. Refute it at one input. -/
def fnExactFitInkWrong : ChangeSpec := { name := "fnExactFitInk", fn := fun _ => fun
  | [d1, d2] => { results := [.lit (.bool false)], args := [d1, d2] }
  | _ => none }
def FnExactFitInkWrongFalsely : Prop := fnExactFitInkRow.holds Try.pinned (OpenSpec.ofChange fnExactFitInkWrong)

/-- 'laws.FnExactFeatsOf': WHATEVER THE INPUT: true; the input reads as it did. -/
def fnExactFeatsOfSpec : ChangeSpec := { name := "fnExactFeatsOf", fn := fun _ => fun
  | [d1, d2] => { results := [.lit (.bool true)], args := [d1, d2] }
  | _ => none }
def fnExactFeatsOfRow : OpenClaim := { program := "ytpmaiklooapnfaa", sum := "31d1eb9085d1d8aa7720f8fcb5a5fe9f6973b4d260cf0c4b4362b7887d828b78", func := "loop.example/g00918/laws.FnExactFeatsOf", spec := "fnExactFeatsOf", apart := false }
def FnExactFeatsOfSaid : Prop := fnExactFeatsOfRow.holds Try.pinned (OpenSpec.ofChange fnExactFeatsOfSpec)

/-- ITS FALSE NEIGHBOUR: 'it returns false'. Refute it at one input. -/
def fnExactFeatsOfWrong : ChangeSpec := { name := "fnExactFeatsOf", fn := fun _ => fun
  | [d1, d2] => { results := [.lit (.bool false)], args := [d1, d2] }
  | _ => none }
def FnExactFeatsOfWrongFalsely : Prop := fnExactFeatsOfRow.holds Try.pinned (OpenSpec.ofChange fnExactFeatsOfWrong)

/-- 'laws.FnExactBaseLineOf': WHATEVER THE INPUT: true; the input reads as it did. -/
def fnExactBaseLineOfSpec : ChangeSpec := { name := "fnExactBaseLineOf", fn := fun _ => fun
  | [d] => { results := [.lit (.bool true)], args := [d] }
  | _ => none }
def fnExactBaseLineOfRow : OpenClaim := { program := "ytpmaiklooapnfaa", sum := "31d1eb9085d1d8aa7720f8fcb5a5fe9f6973b4d260cf0c4b4362b7887d828b78", func := "loop.example/g00918/laws.FnExactBaseLineOf", spec := "fnExactBaseLineOf", unfollowed := true, recurses := true, apart := false }
def FnExactBaseLineOfSaid : Prop := fnExactBaseLineOfRow.holds Try.pinned (OpenSpec.ofChange fnExactBaseLineOfSpec)

/-- ITS FALSE NEIGHBOUR: 'it returns false'. Refute it at one input. -/
def fnExactBaseLineOfWrong : ChangeSpec := { name := "fnExactBaseLineOf", fn := fun _ => fun
  | [d] => { results := [.lit (.bool false)], args := [d] }
  | _ => none }
def FnExactBaseLineOfWrongFalsely : Prop := fnExactBaseLineOfRow.holds Try.pinned (OpenSpec.ofChange fnExactBaseLineOfWrong)

/-- 'laws.FnExactMiddleHeight': WHATEVER THE INPUT: true; the input reads as it did. -/
def fnExactMiddleHeightSpec : ChangeSpec := { name := "fnExactMiddleHeight", fn := fun _ => fun
  | [d] => { results := [.lit (.bool true)], args := [d] }
  | _ => none }
def fnExactMiddleHeightRow : OpenClaim := { program := "ytpmaiklooapnfaa", sum := "31d1eb9085d1d8aa7720f8fcb5a5fe9f6973b4d260cf0c4b4362b7887d828b78", func := "loop.example/g00918/laws.FnExactMiddleHeight", spec := "fnExactMiddleHeight", unfollowed := true, recurses := true, apart := false }
def FnExactMiddleHeightSaid : Prop := fnExactMiddleHeightRow.holds Try.pinned (OpenSpec.ofChange fnExactMiddleHeightSpec)

/-- ITS FALSE NEIGHBOUR: 'it returns false'. Refute it at one input. -/
def fnExactMiddleHeightWrong : ChangeSpec := { name := "fnExactMiddleHeight", fn := fun _ => fun
  | [d] => { results := [.lit (.bool false)], args := [d] }
  | _ => none }
def FnExactMiddleHeightWrongFalsely : Prop := fnExactMiddleHeightRow.holds Try.pinned (OpenSpec.ofChange fnExactMiddleHeightWrong)

/- THE SECOND FORM. 'bulk': how many values and letters a reading holds, each counted each time it is reached (what is shared counts as often as it is met; a slice's spare places count too). A statement '..UptoSaid' is the law's where the arguments, and the package variables that the reading takes, are together of bulk at most 1048576: NARROWER than '..Said'. Prove '..Said' where nothing that the law and all that it calls make is longer than what came in: it says more and counts as full. Else prove '..UptoSaid'. A law counts once. -/
mutual
def uptoBulk {H : Type} : DataW H → Nat
  | .lit (.string bytes) => bytes.length + 1
  | .lit _ => 1
  | .nil => 1
  | .ptr d => uptoBulk d + 1
  | .slice elems spare => uptoBulkAll elems + uptoBulkAll spare + 1
  | .agg parts => uptoBulkAll parts + 1
  | .iface _ d => uptoBulk d + 1
  | .map entries => uptoBulkEntries entries + 1
  | .held _ => 1
def uptoBulkAll {H : Type} : List (DataW H) → Nat
  | [] => 0
  | d :: r => uptoBulk d + uptoBulkAll r
def uptoBulkEntries {H : Type} : List (Lit × DataW H) → Nat
  | [] => 0
  | x :: r => uptoBulkEntry x + uptoBulkEntries r
def uptoBulkEntry {H : Type} : Lit × DataW H → Nat
  | (.string bytes, d) => bytes.length + uptoBulk d + 1
  | (_, d) => uptoBulk d + 1
 end
def uptoSmall : (H : Type) → List (DataW H) → Bool := fun _ ds => decide (uptoBulkAll ds ≤ 1048576)
def OpenSpec.upto (s : _root_.Go.ChangeSpec) : _root_.Go.OpenSpec := { _root_.Go.OpenSpec.ofChange s with cond := some uptoSmall }

/-- 'laws.FnExactSmoothStroke', WHERE WHAT IT READS IS OF BULK AT MOST 1048576: true; the input reads as it did. -/
def fnExactSmoothStrokeUptoRow : OpenClaim := { program := "ytpmaiklooapnfaa", sum := "31d1eb9085d1d8aa7720f8fcb5a5fe9f6973b4d260cf0c4b4362b7887d828b78", func := "loop.example/g00918/laws.FnExactSmoothStroke", spec := "fnExactSmoothStroke", apart := false, narrowed := true }
def FnExactSmoothStrokeUptoSaid : Prop := fnExactSmoothStrokeUptoRow.holds Try.pinned (OpenSpec.upto fnExactSmoothStrokeSpec)

/-- 'laws.FnExactThinStroke', WHERE WHAT IT READS IS OF BULK AT MOST 1048576: true; the input reads as it did. -/
def fnExactThinStrokeUptoRow : OpenClaim := { program := "ytpmaiklooapnfaa", sum := "31d1eb9085d1d8aa7720f8fcb5a5fe9f6973b4d260cf0c4b4362b7887d828b78", func := "loop.example/g00918/laws.FnExactThinStroke", spec := "fnExactThinStroke", apart := false, narrowed := true }
def FnExactThinStrokeUptoSaid : Prop := fnExactThinStrokeUptoRow.holds Try.pinned (OpenSpec.upto fnExactThinStrokeSpec)

/-- 'laws.FnExactSpotAt', WHERE WHAT IT READS IS OF BULK AT MOST 1048576: true; the input reads as it did. -/
def fnExactSpotAtUptoRow : OpenClaim := { program := "ytpmaiklooapnfaa", sum := "31d1eb9085d1d8aa7720f8fcb5a5fe9f6973b4d260cf0c4b4362b7887d828b78", func := "loop.example/g00918/laws.FnExactSpotAt", spec := "fnExactSpotAt", apart := false, narrowed := true }
def FnExactSpotAtUptoSaid : Prop := fnExactSpotAtUptoRow.holds Try.pinned (OpenSpec.upto fnExactSpotAtSpec)

/-- 'laws.FnExactSlantOf', WHERE WHAT IT READS IS OF BULK AT MOST 1048576: true; the input reads as it did. -/
def fnExactSlantOfUptoRow : OpenClaim := { program := "ytpmaiklooapnfaa", sum := "31d1eb9085d1d8aa7720f8fcb5a5fe9f6973b4d260cf0c4b4362b7887d828b78", func := "loop.example/g00918/laws.FnExactSlantOf", spec := "fnExactSlantOf", apart := false, narrowed := true }
def FnExactSlantOfUptoSaid : Prop := fnExactSlantOfUptoRow.holds Try.pinned (OpenSpec.upto fnExactSlantOfSpec)

/-- 'laws.FnExactCenterOf', WHERE WHAT IT READS IS OF BULK AT MOST 1048576: true; the input reads as it did. -/
def fnExactCenterOfUptoRow : OpenClaim := { program := "ytpmaiklooapnfaa", sum := "31d1eb9085d1d8aa7720f8fcb5a5fe9f6973b4d260cf0c4b4362b7887d828b78", func := "loop.example/g00918/laws.FnExactCenterOf", spec := "fnExactCenterOf", apart := false, narrowed := true }
def FnExactCenterOfUptoSaid : Prop := fnExactCenterOfUptoRow.holds Try.pinned (OpenSpec.upto fnExactCenterOfSpec)

/-- 'laws.FnExactStraightenInk', WHERE WHAT IT READS IS OF BULK AT MOST 1048576: true; the input reads as it did. -/
def fnExactStraightenInkUptoRow : OpenClaim := { program := "ytpmaiklooapnfaa", sum := "31d1eb9085d1d8aa7720f8fcb5a5fe9f6973b4d260cf0c4b4362b7887d828b78", func := "loop.example/g00918/laws.FnExactStraightenInk", spec := "fnExactStraightenInk", unfollowed := true, recurses := true, apart := false, narrowed := true }
def FnExactStraightenInkUptoSaid : Prop := fnExactStraightenInkUptoRow.holds Try.pinned (OpenSpec.upto fnExactStraightenInkSpec)

/-- 'laws.FnExactResample', WHERE WHAT IT READS IS OF BULK AT MOST 1048576: true; the input reads as it did. -/
def fnExactResampleUptoRow : OpenClaim := { program := "ytpmaiklooapnfaa", sum := "31d1eb9085d1d8aa7720f8fcb5a5fe9f6973b4d260cf0c4b4362b7887d828b78", func := "loop.example/g00918/laws.FnExactResample", spec := "fnExactResample", apart := false, narrowed := true }
def FnExactResampleUptoSaid : Prop := fnExactResampleUptoRow.holds Try.pinned (OpenSpec.upto fnExactResampleSpec)

/-- 'laws.FnExactFitInk', WHERE WHAT IT READS IS OF BULK AT MOST 1048576: true; the input reads as it did. -/
def fnExactFitInkUptoRow : OpenClaim := { program := "ytpmaiklooapnfaa", sum := "31d1eb9085d1d8aa7720f8fcb5a5fe9f6973b4d260cf0c4b4362b7887d828b78", func := "loop.example/g00918/laws.FnExactFitInk", spec := "fnExactFitInk", unfollowed := true, recurses := true, apart := false, narrowed := true }
def FnExactFitInkUptoSaid : Prop := fnExactFitInkUptoRow.holds Try.pinned (OpenSpec.upto fnExactFitInkSpec)

/-- 'laws.FnExactFeatsOf', WHERE WHAT IT READS IS OF BULK AT MOST 1048576: true; the input reads as it did. -/
def fnExactFeatsOfUptoRow : OpenClaim := { program := "ytpmaiklooapnfaa", sum := "31d1eb9085d1d8aa7720f8fcb5a5fe9f6973b4d260cf0c4b4362b7887d828b78", func := "loop.example/g00918/laws.FnExactFeatsOf", spec := "fnExactFeatsOf", apart := false, narrowed := true }
def FnExactFeatsOfUptoSaid : Prop := fnExactFeatsOfUptoRow.holds Try.pinned (OpenSpec.upto fnExactFeatsOfSpec)

/-- 'laws.FnExactBaseLineOf', WHERE WHAT IT READS IS OF BULK AT MOST 1048576: true; the input reads as it did. -/
def fnExactBaseLineOfUptoRow : OpenClaim := { program := "ytpmaiklooapnfaa", sum := "31d1eb9085d1d8aa7720f8fcb5a5fe9f6973b4d260cf0c4b4362b7887d828b78", func := "loop.example/g00918/laws.FnExactBaseLineOf", spec := "fnExactBaseLineOf", unfollowed := true, recurses := true, apart := false, narrowed := true }
def FnExactBaseLineOfUptoSaid : Prop := fnExactBaseLineOfUptoRow.holds Try.pinned (OpenSpec.upto fnExactBaseLineOfSpec)

/-- 'laws.FnExactMiddleHeight', WHERE WHAT IT READS IS OF BULK AT MOST 1048576: true; the input reads as it did. -/
def fnExactMiddleHeightUptoRow : OpenClaim := { program := "ytpmaiklooapnfaa", sum := "31d1eb9085d1d8aa7720f8fcb5a5fe9f6973b4d260cf0c4b4362b7887d828b78", func := "loop.example/g00918/laws.FnExactMiddleHeight", spec := "fnExactMiddleHeight", unfollowed := true, recurses := true, apart := false, narrowed := true }
def FnExactMiddleHeightUptoSaid : Prop := fnExactMiddleHeightUptoRow.holds Try.pinned (OpenSpec.upto fnExactMiddleHeightSpec)

end Rows
end Go.Proofs.Ytpmaiklooapnfaa
