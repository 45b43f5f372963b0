/- Each type of argument of the laws, opened: what its value looks like and how it reads, before the call. -/
import Derived.Test.YtkldejbhhbgefaaRows
import Derived.Test.YtkldejbhhbgefaaOp
namespace Go.Proofs.Ytkldejbhhbgefaa
open Go.ChangeShapes Go.WideShapes Go.ChangeAt Go.RowKit Go.Deep Go.Joins
set_option maxRecDepth 100000
theorem Try.own : ownKnob Try.prog.godebug = none := by kernel_rfl
theorem Try.laidOut : laidOutB Try.prog = true := by kernel_rfl
section
variable {H : Type} {enc : TypeId × Value → H} {W : World} {v : Value} {d : DataW H} {p : List MemPlace} {base : Nat}
theorem opFeat (hv : Value.okWide Try.prog W .any base 81 v) (h : DataW.Trod enc Try.prog W 0 (fun _ => true) true 81 v d p) :
    ∃ x y z : Int, v = .agg #[.int .i64 x, .int .i64 y, .int .i64 z] ∧ ok3 (x, y, z) :=
  open_vec3 Try.underlying81 (by kernel_rfl) (by kernel_rfl) rfl rfl rfl Try.underlying2 hv h
theorem opFeats (hv : Value.okWide Try.prog W .any base 38 v) (h : DataW.Trod enc Try.prog W 0 (fun _ => true) true 38 v d p) :
    ∃ (A : Option Addr) (n c : Nat) (xs : List T3), v = .slice A n c ∧ RdL c3 3 W W.heap.size A n c xs ∧ ∀ x ∈ xs, ok3 x := by
  obtain ⟨a, l, c, rfl⟩ := okWide_slice Try.underlying38 hv
  obtain ⟨fuel, hf⟩ := h
  exact open_rows3 Try.underlying38 Try.underlying81 (by kernel_rfl) (by kernel_rfl) rfl rfl rfl Try.underlying2 hf
theorem opI64 (hv : Value.okWide Try.prog W .any base 2 v) (h : DataW.Trod enc Try.prog W 0 (fun _ => true) true 2 v d p) : ∃ x : Int, v = .int .i64 x ∧ I64 x := by
  obtain ⟨x, e, _, _, hw⟩ := open_int Try.underlying2 hv h
  exact ⟨x, e, i64_of hw⟩
end
end Go.Proofs.Ytkldejbhhbgefaa
