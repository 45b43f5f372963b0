/-
  No cell of these rows narrows 'for every input' (looked for: loops, veiled, ifaces, maps, wideKeys, modest, calm, conditions, laid).
  DERIVED. THE GIVEN ROWS OF THIS SEAT. 5 by the template 'for every input the law returns true; each argument reads behind the call as it read before'; 0 by the template 'total and deterministic' (their statements: YtbfilhpgekgmbaaTotals.lean).
  GIVEN WITH THE SEED: the statements are not yours to turn. If you find one false, say at which input.
  Laid BY PROGRAM, IN A SANDBOX (cutbox-rows.mjs): the forced cells as the released guide's own fill.sh prints them over the translation a6d03ed9a82fb084… (all of the seat's roots in one cut). By AI agents, Wed Nov 11 2026. No macro, syntax, notation, axiom, sorry.
-/
import Derived.Test.YtbfilhpgekgmbaaChecked
import GoSem.Claim
import GoSem.ClaimJoined
import GoSem.ClaimMapViews
import Derived.JoinedTies
import Derived.KernelRfl
namespace Go.Proofs.Ytbfilhpgekgmbaa
/- THE CELL 'sum', in the pinned program and in every row, IS THE sha256 OF THE DUMP (.gsa) THAT YtbfilhpgekgmbaaProg.lean LOADS. Nothing in Lean hashes anything: it is a label: what it is worth is what the hold of that sum in a sandbox is worth. -/
noncomputable def Try.pinned : Pinned := { name := "ytbfilhpgekgmbaa", sum := "a6d03ed9a82fb084a8563d361ed5d0071e5197b6a97a0f24154549efacc3f8ff", checked := Try.checked }
namespace Rows
def none {H : Type} : Left H := { results := [], args := [] }

/-- 'laws.FnExactStraightenInk': WHATEVER THE INPUT: true; the input reads as it did. -/
def fnExactStraightenInkSpec : ChangeSpec := { name := "fnExactStraightenInk", fn := fun _ => fun
  | [d1, d2, d3] => { results := [.lit (.bool true)], args := [d1, d2, d3] }
  | _ => none }
def fnExactStraightenInkRow : OpenClaim := { program := "ytbfilhpgekgmbaa", sum := "a6d03ed9a82fb084a8563d361ed5d0071e5197b6a97a0f24154549efacc3f8ff", func := "loop.example/g00918/laws.FnExactStraightenInk", spec := "fnExactStraightenInk", unfollowed := true, recurses := true, apart := false }
def FnExactStraightenInkSaid : Prop := fnExactStraightenInkRow.holds Try.pinned (OpenSpec.ofChange fnExactStraightenInkSpec)

/-- ITS FALSE NEIGHBOUR: 'it returns false'. Refute it at one input. -/
def fnExactStraightenInkWrong : ChangeSpec := { name := "fnExactStraightenInk", fn := fun _ => fun
  | [d1, d2, d3] => { results := [.lit (.bool false)], args := [d1, d2, d3] }
  | _ => none }
def FnExactStraightenInkWrongFalsely : Prop := fnExactStraightenInkRow.holds Try.pinned (OpenSpec.ofChange fnExactStraightenInkWrong)

/-- 'laws.FnExactFitInk': WHATEVER THE INPUT: true; the input reads as it did. -/
def fnExactFitInkSpec : ChangeSpec := { name := "fnExactFitInk", fn := fun _ => fun
  | [d1, d2] => { results := [.lit (.bool true)], args := [d1, d2] }
  | _ => none }
def fnExactFitInkRow : OpenClaim := { program := "ytbfilhpgekgmbaa", sum := "a6d03ed9a82fb084a8563d361ed5d0071e5197b6a97a0f24154549efacc3f8ff", func := "loop.example/g00918/laws.FnExactFitInk", spec := "fnExactFitInk", unfollowed := true, recurses := true, apart := false }
def FnExactFitInkSaid : Prop := fnExactFitInkRow.holds Try.pinned (OpenSpec.ofChange fnExactFitInkSpec)

/-- ITS FALSE NEIGHBOUR: 'it returns false'. Refute it at one input. -/
def fnExactFitInkWrong : ChangeSpec := { name := "fnExactFitInk", fn := fun _ => fun
  | [d1, d2] => { results := [.lit (.bool false)], args := [d1, d2] }
  | _ => none }
def FnExactFitInkWrongFalsely : Prop := fnExactFitInkRow.holds Try.pinned (OpenSpec.ofChange fnExactFitInkWrong)

/-- 'laws.FnExactFeatsOf': WHATEVER THE INPUT: true; the input reads as it did. -/
def fnExactFeatsOfSpec : ChangeSpec := { name := "fnExactFeatsOf", fn := fun _ => fun
  | [d1, d2] => { results := [.lit (.bool true)], args := [d1, d2] }
  | _ => none }
def fnExactFeatsOfRow : OpenClaim := { program := "ytbfilhpgekgmbaa", sum := "a6d03ed9a82fb084a8563d361ed5d0071e5197b6a97a0f24154549efacc3f8ff", func := "loop.example/g00918/laws.FnExactFeatsOf", spec := "fnExactFeatsOf", apart := false }
def FnExactFeatsOfSaid : Prop := fnExactFeatsOfRow.holds Try.pinned (OpenSpec.ofChange fnExactFeatsOfSpec)

/-- ITS FALSE NEIGHBOUR: 'it returns false'. Refute it at one input. -/
def fnExactFeatsOfWrong : ChangeSpec := { name := "fnExactFeatsOf", fn := fun _ => fun
  | [d1, d2] => { results := [.lit (.bool false)], args := [d1, d2] }
  | _ => none }
def FnExactFeatsOfWrongFalsely : Prop := fnExactFeatsOfRow.holds Try.pinned (OpenSpec.ofChange fnExactFeatsOfWrong)

/-- 'laws.FnExactBaseLineOf': WHATEVER THE INPUT: true; the input reads as it did. -/
def fnExactBaseLineOfSpec : ChangeSpec := { name := "fnExactBaseLineOf", fn := fun _ => fun
  | [d] => { results := [.lit (.bool true)], args := [d] }
  | _ => none }
def fnExactBaseLineOfRow : OpenClaim := { program := "ytbfilhpgekgmbaa", sum := "a6d03ed9a82fb084a8563d361ed5d0071e5197b6a97a0f24154549efacc3f8ff", func := "loop.example/g00918/laws.FnExactBaseLineOf", spec := "fnExactBaseLineOf", unfollowed := true, recurses := true, apart := false }
def FnExactBaseLineOfSaid : Prop := fnExactBaseLineOfRow.holds Try.pinned (OpenSpec.ofChange fnExactBaseLineOfSpec)

/-- ITS FALSE NEIGHBOUR: 'it returns false'. Refute it at one input. -/
def fnExactBaseLineOfWrong : ChangeSpec := { name := "fnExactBaseLineOf", fn := fun _ => fun
  | [d] => { results := [.lit (.bool false)], args := [d] }
  | _ => none }
def FnExactBaseLineOfWrongFalsely : Prop := fnExactBaseLineOfRow.holds Try.pinned (OpenSpec.ofChange fnExactBaseLineOfWrong)

/-- 'laws.FnExactMiddleHeight': WHATEVER THE INPUT: true; the input reads as it did. -/
def fnExactMiddleHeightSpec : ChangeSpec := { name := "fnExactMiddleHeight", fn := fun _ => fun
  | [d] => { results := [.lit (.bool true)], args := [d] }
  | _ => none }
def fnExactMiddleHeightRow : OpenClaim := { program := "ytbfilhpgekgmbaa", sum := "a6d03ed9a82fb084a8563d361ed5d0071e5197b6a97a0f24154549efacc3f8ff", func := "loop.example/g00918/laws.FnExactMiddleHeight", spec := "fnExactMiddleHeight", unfollowed := true, recurses := true, apart := false }
def FnExactMiddleHeightSaid : Prop := fnExactMiddleHeightRow.holds Try.pinned (OpenSpec.ofChange fnExactMiddleHeightSpec)

/-- ITS FALSE NEIGHBOUR: 'it returns false'. Refute it at one input. -/
def fnExactMiddleHeightWrong : ChangeSpec := { name := "fnExactMiddleHeight", fn := fun _ => fun
  | [d] => { results := [.lit (.bool false)], args := [d] }
  | _ => none }
def FnExactMiddleHeightWrongFalsely : Prop := fnExactMiddleHeightRow.holds Try.pinned (OpenSpec.ofChange fnExactMiddleHeightWrong)

/- THE SECOND FORM. 'bulk': how many values and letters a reading holds, each counted each time it is reached (what is shared counts as often as it is met; a slice's spare places count too). A statement '..UptoSaid' is the law's where the arguments, and the package variables that the reading takes, are together of bulk at most 1048576: NARROWER than '..Said'. Prove '..Said' where nothing that the law and all that it calls make is longer than what came in: it says more and counts as full. Else prove '..UptoSaid'. A law counts once. -/
mutual
def uptoBulk {H : Type} : DataW H → Nat
  | .lit (.string bytes) => bytes.length + 1
  | .lit _ => 1
  | .nil => 1
  | .ptr d => uptoBulk d + 1
  | .slice elems spare => uptoBulkAll elems + uptoBulkAll spare + 1
  | .agg parts => uptoBulkAll parts + 1
  | .iface _ d => uptoBulk d + 1
  | .map entries => uptoBulkEntries entries + 1
  | .held _ => 1
def uptoBulkAll {H : Type} : List (DataW H) → Nat
  | [] => 0
  | d :: r => uptoBulk d + uptoBulkAll r
def uptoBulkEntries {H : Type} : List (Lit × DataW H) → Nat
  | [] => 0
  | x :: r => uptoBulkEntry x + uptoBulkEntries r
def uptoBulkEntry {H : Type} : Lit × DataW H → Nat
  | (.string bytes, d) => bytes.length + uptoBulk d + 1
  | (_, d) => uptoBulk d + 1
 end
def uptoSmall : (H : Type) → List (DataW H) → Bool := fun _ ds => decide (uptoBulkAll ds ≤ 1048576)
def OpenSpec.upto (s : _root_.Go.ChangeSpec) : _root_.Go.OpenSpec := { _root_.Go.OpenSpec.ofChange s with cond := some uptoSmall }

/-- 'laws.FnExactStraightenInk', WHERE WHAT IT READS IS OF BULK AT MOST 1048576: true; the input reads as it did. -/
def fnExactStraightenInkUptoRow : OpenClaim := { program := "ytbfilhpgekgmbaa", sum := "a6d03ed9a82fb084a8563d361ed5d0071e5197b6a97a0f24154549efacc3f8ff", func := "loop.example/g00918/laws.FnExactStraightenInk", spec := "fnExactStraightenInk", unfollowed := true, recurses := true, apart := false, narrowed := true }
def FnExactStraightenInkUptoSaid : Prop := fnExactStraightenInkUptoRow.holds Try.pinned (OpenSpec.upto fnExactStraightenInkSpec)

/-- 'laws.FnExactFitInk', WHERE WHAT IT READS IS OF BULK AT MOST 1048576: true; the input reads as it did. -/
def fnExactFitInkUptoRow : OpenClaim := { program := "ytbfilhpgekgmbaa", sum := "a6d03ed9a82fb084a8563d361ed5d0071e5197b6a97a0f24154549efacc3f8ff", func := "loop.example/g00918/laws.FnExactFitInk", spec := "fnExactFitInk", unfollowed := true, recurses := true, apart := false, narrowed := true }
def FnExactFitInkUptoSaid : Prop := fnExactFitInkUptoRow.holds Try.pinned (OpenSpec.upto fnExactFitInkSpec)

/-- 'laws.FnExactFeatsOf', WHERE WHAT IT READS IS OF BULK AT MOST 1048576: true; the input reads as it did. -/
def fnExactFeatsOfUptoRow : OpenClaim := { program := "ytbfilhpgekgmbaa", sum := "a6d03ed9a82fb084a8563d361ed5d0071e5197b6a97a0f24154549efacc3f8ff", func := "loop.example/g00918/laws.FnExactFeatsOf", spec := "fnExactFeatsOf", apart := false, narrowed := true }
def FnExactFeatsOfUptoSaid : Prop := fnExactFeatsOfUptoRow.holds Try.pinned (OpenSpec.upto fnExactFeatsOfSpec)

/-- 'laws.FnExactBaseLineOf', WHERE WHAT IT READS IS OF BULK AT MOST 1048576: true; the input reads as it did. -/
def fnExactBaseLineOfUptoRow : OpenClaim := { program := "ytbfilhpgekgmbaa", sum := "a6d03ed9a82fb084a8563d361ed5d0071e5197b6a97a0f24154549efacc3f8ff", func := "loop.example/g00918/laws.FnExactBaseLineOf", spec := "fnExactBaseLineOf", unfollowed := true, recurses := true, apart := false, narrowed := true }
def FnExactBaseLineOfUptoSaid : Prop := fnExactBaseLineOfUptoRow.holds Try.pinned (OpenSpec.upto fnExactBaseLineOfSpec)

/-- 'laws.FnExactMiddleHeight', WHERE WHAT IT READS IS OF BULK AT MOST 1048576: true; the input reads as it did. -/
def fnExactMiddleHeightUptoRow : OpenClaim := { program := "ytbfilhpgekgmbaa", sum := "a6d03ed9a82fb084a8563d361ed5d0071e5197b6a97a0f24154549efacc3f8ff", func := "loop.example/g00918/laws.FnExactMiddleHeight", spec := "fnExactMiddleHeight", unfollowed := true, recurses := true, apart := false, narrowed := true }
def FnExactMiddleHeightUptoSaid : Prop := fnExactMiddleHeightUptoRow.holds Try.pinned (OpenSpec.upto fnExactMiddleHeightSpec)

end Rows
end Go.Proofs.Ytbfilhpgekgmbaa
