/- Each type of argument of the laws, opened: what its value looks like and how it reads, before the call. -/
import Derived.Test.YtnjifhlabbejoaaGreatDoorRows
import Derived.Test.YtnjifhlabbejoaaGreatDoorOp
namespace Go.Proofs.YtnjifhlabbejoaaGreatDoor
open Go.ChangeShapes Go.WideShapes Go.ChangeAt Go.RowKit Go.Deep Go.Joins
set_option maxRecDepth 100000
theorem Tryz.own : ownKnob Tryz.prog.godebug = none := by kernel_rfl
theorem Tryz.laidOut : laidOutB Tryz.prog = true := by kernel_rfl
section
variable {H : Type} {enc : TypeId × Value → H} {W : World} {v : Value} {d : DataW H} {p : List MemPlace} {base : Nat}
theorem opI64 (hv : Value.okWide Tryz.prog W .any base 2 v) (h : DataW.Trod enc Tryz.prog W 0 (fun _ => true) true 2 v d p) : ∃ x : Int, v = .int .i64 x ∧ I64 x := by
  obtain ⟨x, e, _, _, hw⟩ := open_int Tryz.underlying2 hv h
  exact ⟨x, e, i64_of hw⟩
end
end Go.Proofs.YtnjifhlabbejoaaGreatDoor
