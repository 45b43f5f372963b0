/-
  No cell of these rows narrows 'for every input' (looked for: loops, veiled, ifaces, maps, wideKeys, modest, calm, conditions, laid).
  DERIVED. THE GIVEN ROWS OF THIS SEAT. 4 by the template 'for every input the law returns true; each argument reads behind the call as it read before'; 0 by the template 'total and deterministic' (their statements: YtkldejbhhbgefaaTotals.lean).
  GIVEN WITH THE SEED: the statements are not yours to turn. If you find one false, say at which input.
  Laid BY PROGRAM, IN A SANDBOX (cutbox-rows.mjs): the forced cells as the released guide's own fill.sh prints them over the translation c6c5b58c13ef6d6d… (all of the seat's roots in one cut). By AI agents, Wed Nov 11 2026. No macro, syntax, notation, axiom, sorry.
-/
import Derived.Test.YtkldejbhhbgefaaChecked
import GoSem.Claim
import GoSem.ClaimJoined
import GoSem.ClaimMapViews
import Derived.JoinedTies
import Derived.KernelRfl
namespace Go.Proofs.Ytkldejbhhbgefaa
/- THE CELL 'sum', in the pinned program and in every row, IS THE sha256 OF THE DUMP (.gsa) THAT YtkldejbhhbgefaaProg.lean LOADS. Nothing in Lean hashes anything: it is a label: what it is worth is what the hold of that sum in a sandbox is worth. -/
noncomputable def Try.pinned : Pinned := { name := "ytkldejbhhbgefaa", sum := "c6c5b58c13ef6d6d19d4a48ab03f084579f23fe4a1214bda4784b9a798b45cd4", checked := Try.checked }
namespace Rows
def none {H : Type} : Left H := { results := [], args := [] }

/-- 'laws.FnExactWrongTemplates': WHATEVER THE INPUT: true; the input reads as it did. -/
def fnExactWrongTemplatesSpec : ChangeSpec := { name := "fnExactWrongTemplates", fn := fun _ => fun
  | [d1, d2] => { results := [.lit (.bool true)], args := [d1, d2] }
  | _ => none }
def fnExactWrongTemplatesRow : OpenClaim := { program := "ytkldejbhhbgefaa", sum := "c6c5b58c13ef6d6d19d4a48ab03f084579f23fe4a1214bda4784b9a798b45cd4", func := "loop.example/g00918/laws.FnExactWrongTemplates", spec := "fnExactWrongTemplates", inPlace := ["internal/bytealg.IndexByteString", "internal/bytealg.IndexString"], unfollowed := true, recurses := true, named := ["internal/bytealg.MaxLen"], apart := false }
def FnExactWrongTemplatesSaid : Prop := fnExactWrongTemplatesRow.holds Try.pinned (OpenSpec.ofChange fnExactWrongTemplatesSpec)

/-- ITS FALSE NEIGHBOUR: 'it returns false'. Refute it at one input. -/
def fnExactWrongTemplatesWrong : ChangeSpec := { name := "fnExactWrongTemplates", fn := fun _ => fun
  | [d1, d2] => { results := [.lit (.bool false)], args := [d1, d2] }
  | _ => none }
def FnExactWrongTemplatesWrongFalsely : Prop := fnExactWrongTemplatesRow.holds Try.pinned (OpenSpec.ofChange fnExactWrongTemplatesWrong)

/-- 'laws.FnExactBoundOrder': WHATEVER THE INPUT: true; the input reads as it did. -/
def fnExactBoundOrderSpec : ChangeSpec := { name := "fnExactBoundOrder", fn := fun _ => fun
  | [d1, d2, d3] => { results := [.lit (.bool true)], args := [d1, d2, d3] }
  | _ => none }
def fnExactBoundOrderRow : OpenClaim := { program := "ytkldejbhhbgefaa", sum := "c6c5b58c13ef6d6d19d4a48ab03f084579f23fe4a1214bda4784b9a798b45cd4", func := "loop.example/g00918/laws.FnExactBoundOrder", spec := "fnExactBoundOrder", unfollowed := true, recurses := true, apart := false }
def FnExactBoundOrderSaid : Prop := fnExactBoundOrderRow.holds Try.pinned (OpenSpec.ofChange fnExactBoundOrderSpec)

/-- ITS FALSE NEIGHBOUR: 'it returns false'. Refute it at one input. -/
def fnExactBoundOrderWrong : ChangeSpec := { name := "fnExactBoundOrder", fn := fun _ => fun
  | [d1, d2, d3] => { results := [.lit (.bool false)], args := [d1, d2, d3] }
  | _ => none }
def FnExactBoundOrderWrongFalsely : Prop := fnExactBoundOrderRow.holds Try.pinned (OpenSpec.ofChange fnExactBoundOrderWrong)

/-- 'laws.FnExactNearest': WHATEVER THE INPUT: true; the input reads as it did. -/
def fnExactNearestSpec : ChangeSpec := { name := "fnExactNearest", fn := fun _ => fun
  | [d1, d2, d3] => { results := [.lit (.bool true)], args := [d1, d2, d3] }
  | _ => none }
def fnExactNearestRow : OpenClaim := { program := "ytkldejbhhbgefaa", sum := "c6c5b58c13ef6d6d19d4a48ab03f084579f23fe4a1214bda4784b9a798b45cd4", func := "loop.example/g00918/laws.FnExactNearest", spec := "fnExactNearest", inPlace := ["internal/bytealg.IndexByteString", "internal/bytealg.IndexString"], unfollowed := true, recurses := true, named := ["internal/bytealg.MaxLen"], apart := false }
def FnExactNearestSaid : Prop := fnExactNearestRow.holds Try.pinned (OpenSpec.ofChange fnExactNearestSpec)

/-- ITS FALSE NEIGHBOUR: 'it returns false'. Refute it at one input. -/
def fnExactNearestWrong : ChangeSpec := { name := "fnExactNearest", fn := fun _ => fun
  | [d1, d2, d3] => { results := [.lit (.bool false)], args := [d1, d2, d3] }
  | _ => none }
def FnExactNearestWrongFalsely : Prop := fnExactNearestRow.holds Try.pinned (OpenSpec.ofChange fnExactNearestWrong)

/-- 'laws.FnExactVote': WHATEVER THE INPUT: true; the input reads as it did. -/
def fnExactVoteSpec : ChangeSpec := { name := "fnExactVote", fn := fun _ => fun
  | [d1, d2, d3] => { results := [.lit (.bool true)], args := [d1, d2, d3] }
  | _ => none }
def fnExactVoteRow : OpenClaim := { program := "ytkldejbhhbgefaa", sum := "c6c5b58c13ef6d6d19d4a48ab03f084579f23fe4a1214bda4784b9a798b45cd4", func := "loop.example/g00918/laws.FnExactVote", spec := "fnExactVote", inPlace := ["internal/bytealg.IndexByteString", "internal/bytealg.IndexString"], unfollowed := true, recurses := true, named := ["internal/bytealg.MaxLen"], apart := false }
def FnExactVoteSaid : Prop := fnExactVoteRow.holds Try.pinned (OpenSpec.ofChange fnExactVoteSpec)

/-- ITS FALSE NEIGHBOUR: 'it returns false'. Refute it at one input. -/
def fnExactVoteWrong : ChangeSpec := { name := "fnExactVote", fn := fun _ => fun
  | [d1, d2, d3] => { results := [.lit (.bool false)], args := [d1, d2, d3] }
  | _ => none }
def FnExactVoteWrongFalsely : Prop := fnExactVoteRow.holds Try.pinned (OpenSpec.ofChange fnExactVoteWrong)

/- THE SECOND FORM. 'bulk': how many values and letters a reading holds, each counted each time it is reached (what is shared counts as often as it is met; a slice's spare places count too). A statement '..UptoSaid' is the law's where the arguments, and the package variables that the reading takes, are together of bulk at most 1048576: NARROWER than '..Said'. Prove '..Said' where nothing that the law and all that it calls make is longer than what came in: it says more and counts as full. Else prove '..UptoSaid'. A law counts once. -/
mutual
def uptoBulk {H : Type} : DataW H → Nat
  | .lit (.string bytes) => bytes.length + 1
  | .lit _ => 1
  | .nil => 1
  | .ptr d => uptoBulk d + 1
  | .slice elems spare => uptoBulkAll elems + uptoBulkAll spare + 1
  | .agg parts => uptoBulkAll parts + 1
  | .iface _ d => uptoBulk d + 1
  | .map entries => uptoBulkEntries entries + 1
  | .held _ => 1
def uptoBulkAll {H : Type} : List (DataW H) → Nat
  | [] => 0
  | d :: r => uptoBulk d + uptoBulkAll r
def uptoBulkEntries {H : Type} : List (Lit × DataW H) → Nat
  | [] => 0
  | x :: r => uptoBulkEntry x + uptoBulkEntries r
def uptoBulkEntry {H : Type} : Lit × DataW H → Nat
  | (.string bytes, d) => bytes.length + uptoBulk d + 1
  | (_, d) => uptoBulk d + 1
 end
def uptoSmall : (H : Type) → List (DataW H) → Bool := fun _ ds => decide (uptoBulkAll ds ≤ 1048576)
def OpenSpec.upto (s : _root_.Go.ChangeSpec) : _root_.Go.OpenSpec := { _root_.Go.OpenSpec.ofChange s with cond := some uptoSmall }

/-- 'laws.FnExactWrongTemplates', WHERE WHAT IT READS IS OF BULK AT MOST 1048576: true; the input reads as it did. -/
def fnExactWrongTemplatesUptoRow : OpenClaim := { program := "ytkldejbhhbgefaa", sum := "c6c5b58c13ef6d6d19d4a48ab03f084579f23fe4a1214bda4784b9a798b45cd4", func := "loop.example/g00918/laws.FnExactWrongTemplates", spec := "fnExactWrongTemplates", inPlace := ["internal/bytealg.IndexByteString", "internal/bytealg.IndexString"], unfollowed := true, recurses := true, named := ["internal/bytealg.MaxLen"], apart := false, narrowed := true }
def FnExactWrongTemplatesUptoSaid : Prop := fnExactWrongTemplatesUptoRow.holds Try.pinned (OpenSpec.upto fnExactWrongTemplatesSpec)

/-- 'laws.FnExactBoundOrder', WHERE WHAT IT READS IS OF BULK AT MOST 1048576: true; the input reads as it did. -/
def fnExactBoundOrderUptoRow : OpenClaim := { program := "ytkldejbhhbgefaa", sum := "c6c5b58c13ef6d6d19d4a48ab03f084579f23fe4a1214bda4784b9a798b45cd4", func := "loop.example/g00918/laws.FnExactBoundOrder", spec := "fnExactBoundOrder", unfollowed := true, recurses := true, apart := false, narrowed := true }
def FnExactBoundOrderUptoSaid : Prop := fnExactBoundOrderUptoRow.holds Try.pinned (OpenSpec.upto fnExactBoundOrderSpec)

/-- 'laws.FnExactNearest', WHERE WHAT IT READS IS OF BULK AT MOST 1048576: true; the input reads as it did. -/
def fnExactNearestUptoRow : OpenClaim := { program := "ytkldejbhhbgefaa", sum := "c6c5b58c13ef6d6d19d4a48ab03f084579f23fe4a1214bda4784b9a798b45cd4", func := "loop.example/g00918/laws.FnExactNearest", spec := "fnExactNearest", inPlace := ["internal/bytealg.IndexByteString", "internal/bytealg.IndexString"], unfollowed := true, recurses := true, named := ["internal/bytealg.MaxLen"], apart := false, narrowed := true }
def FnExactNearestUptoSaid : Prop := fnExactNearestUptoRow.holds Try.pinned (OpenSpec.upto fnExactNearestSpec)

/-- 'laws.FnExactVote', WHERE WHAT IT READS IS OF BULK AT MOST 1048576: true; the input reads as it did. -/
def fnExactVoteUptoRow : OpenClaim := { program := "ytkldejbhhbgefaa", sum := "c6c5b58c13ef6d6d19d4a48ab03f084579f23fe4a1214bda4784b9a798b45cd4", func := "loop.example/g00918/laws.FnExactVote", spec := "fnExactVote", inPlace := ["internal/bytealg.IndexByteString", "internal/bytealg.IndexString"], unfollowed := true, recurses := true, named := ["internal/bytealg.MaxLen"], apart := false, narrowed := true }
def FnExactVoteUptoSaid : Prop := fnExactVoteUptoRow.holds Try.pinned (OpenSpec.upto fnExactVoteSpec)

end Rows
end Go.Proofs.Ytkldejbhhbgefaa
