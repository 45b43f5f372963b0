/- Each type of argument of the laws, opened: what its value looks like and how it reads, before the call. -/
import Derived.Test.YtnjifhlabbejoaaDoorRows
import Derived.Test.YtnjifhlabbejoaaDoorOp
namespace Go.Proofs.YtnjifhlabbejoaaDoor
open Go.ChangeShapes Go.WideShapes Go.ChangeAt Go.RowKit Go.Deep Go.Joins
set_option maxRecDepth 100000
theorem Tryd.own : ownKnob Tryd.prog.godebug = none := by kernel_rfl
theorem Tryd.laidOut : laidOutB Tryd.prog = true := by kernel_rfl
section
variable {H : Type} {enc : TypeId × Value → H} {W : World} {v : Value} {d : DataW H} {p : List MemPlace} {base : Nat}
theorem opFeat (hv : Value.okWide Tryd.prog W .any base 52 v) (h : DataW.Trod enc Tryd.prog W 0 (fun _ => true) true 52 v d p) :
    ∃ x y z : Int, v = .agg #[.int .i64 x, .int .i64 y, .int .i64 z] ∧ ok3 (x, y, z) :=
  open_vec3 Tryd.underlying52 (by kernel_rfl) (by kernel_rfl) rfl rfl rfl Tryd.underlying2 hv h
theorem opFeats (hv : Value.okWide Tryd.prog W .any base 28 v) (h : DataW.Trod enc Tryd.prog W 0 (fun _ => true) true 28 v d p) :
    ∃ (A : Option Addr) (n c : Nat) (xs : List T3), v = .slice A n c ∧ RdL c3 3 W W.heap.size A n c xs ∧ ∀ x ∈ xs, ok3 x := by
  obtain ⟨a, l, c, rfl⟩ := okWide_slice Tryd.underlying28 hv
  obtain ⟨fuel, hf⟩ := h
  exact open_rows3 Tryd.underlying28 Tryd.underlying52 (by kernel_rfl) (by kernel_rfl) rfl rfl rfl Tryd.underlying2 hf
theorem opI64 (hv : Value.okWide Tryd.prog W .any base 2 v) (h : DataW.Trod enc Tryd.prog W 0 (fun _ => true) true 2 v d p) : ∃ x : Int, v = .int .i64 x ∧ I64 x := by
  obtain ⟨x, e, _, _, hw⟩ := open_int Tryd.underlying2 hv h
  exact ⟨x, e, i64_of hw⟩
end
end Go.Proofs.YtnjifhlabbejoaaDoor
