/- Each type of argument of the laws, opened: what its value looks like and how it reads, before the call. -/
import Derived.Test.YtbfilhpgekgmbaaRows
import Derived.Test.YtbfilhpgekgmbaaOp
namespace Go.Proofs.Ytbfilhpgekgmbaa
open Go.ChangeShapes Go.WideShapes Go.ChangeAt Go.RowKit Go.Deep Go.Joins
set_option maxRecDepth 100000
theorem Try.own : ownKnob Try.prog.godebug = none := by kernel_rfl
theorem Try.laidOut : laidOutB Try.prog = true := by kernel_rfl
section
variable {H : Type} {enc : TypeId × Value → H} {W : World} {v : Value} {d : DataW H} {p : List MemPlace} {base : Nat}
theorem opI64 (hv : Value.okWide Try.prog W .any base 2 v) (h : DataW.Trod enc Try.prog W 0 (fun _ => true) true 2 v d p) : ∃ x : Int, v = .int .i64 x ∧ I64 x := by
  obtain ⟨x, e, _, _, hw⟩ := open_int Try.underlying2 hv h
  exact ⟨x, e, i64_of hw⟩
end
end Go.Proofs.Ytbfilhpgekgmbaa
