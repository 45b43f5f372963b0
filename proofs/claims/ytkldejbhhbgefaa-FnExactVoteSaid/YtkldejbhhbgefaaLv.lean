/- LabelsOf: the reference's, walked. -/
import Derived.Test.YtkldejbhhbgefaaLu
namespace Go.Proofs.Ytkldejbhhbgefaa
open Go.ChangeShapes Go.WideShapes Go.ChangeAt Go.RowKit
set_option linter.unusedVariables false
set_option linter.unusedSimpArgs false
def insK (ts : List TV) (k : Nat) : List SL8 := (lbs (ts.take k)).foldl insL []
theorem insK_succ {ts : List TV} {k : Nat} {s : ByteArray} {x : List T3} (h : ts[k]? = some (s, x)) : insK ts (k + 1) = insL (insK ts k) s.data.toList := by
  unfold insK lbs; rw [take_succ_of h]; simp
theorem insK_all {z : Int} {ts : List TV} {k : Nat} (h : ts.length ≤ k) (hv : storeB z ts = true) : lbE z ts = 0 ∧ lbL z ts = (insK ts k).map b8 := by
  obtain ⟨h1, h2⟩ := lb_ok hv
  refine ⟨h1, h2.trans ?_⟩
  unfold insK
  rw [List.take_of_length_le h, fold_sorted]