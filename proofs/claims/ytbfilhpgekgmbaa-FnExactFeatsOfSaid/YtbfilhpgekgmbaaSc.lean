/- Contracts of the functions on numbers and on small structs by value. -/
import Derived.Test.YtbfilhpgekgmbaaRows
import Derived.Test.YtbfilhpgekgmbaaPl
import Derived.OpenShut
import Derived.WalkLawsBesides
import Derived.WalkSpells
namespace Go.Proofs.Ytbfilhpgekgmbaa
open Go.ChangeShapes Go.WideShapes Go.ChangeAt Go.RowKit

theorem l00In_any (n lo hi : Int) (w : World) : Calls Try.prog 28 #[.int .i64 n, .int .i64 lo, .int .i64 hi] w fun e w' => e = .returned (.bool (inB lo hi n)) ∧ w = w' := by
  go_enter Try.func28, Try.ntmps28
  go_wp2
  all_goals
    go_ret
    exact ⟨by first | rw [inB_lo ‹_›]; rfl | rw [inB_hi ‹_›]; rfl, rfl⟩

theorem within_any (n lo hi : Int) (w : World) : Calls Try.prog 33 #[.int .i64 n, .int .i64 lo, .int .i64 hi] w fun e w' => e = .returned (.bool (inB lo hi n)) ∧ w = w' := by
  go_enter Try.func33, Try.ntmps33
  go_wp2
  all_goals
    go_ret
    exact ⟨by first | rw [inB_lo ‹_›]; rfl | rw [inB_hi ‹_›]; rfl, rfl⟩

theorem abs_any (n : Int) (w : World) (h : -9223372036854775807 ≤ n) (h' : n ≤ 9223372036854775807) : Calls Try.prog 88 #[.int .i64 n] w fun e w' => e = .returned (.int .i64 n.natAbs) ∧ w = w' := by
  go_enter Try.func88, Try.ntmps88
  go_wp2
  all_goals
    go_ret
    exact ⟨ret_int (by omega), rfl⟩

theorem l00Min_any (a b : Int) (w : World) : Calls Try.prog 82 #[.int .i64 a, .int .i64 b] w fun e w' => e = .returned (.int .i64 (min a b)) ∧ w = w' := by
  go_enter Try.func82, Try.ntmps82
  go_wp2
  all_goals
    go_ret
    exact ⟨ret_int (by omega), rfl⟩

theorem l00Max_any (a b : Int) (w : World) : Calls Try.prog 68 #[.int .i64 a, .int .i64 b] w fun e w' => e = .returned (.int .i64 (max a b)) ∧ w = w' := by
  go_enter Try.func68, Try.ntmps68
  go_wp2
  all_goals
    go_ret
    exact ⟨ret_int (by omega), rfl⟩
def featB (x y d : Int) : Bool := inB 0 255 x && inB 0 255 y && inB 0 7 d
theorem eqFeat_any (x y d x' y' d' : Int) (w : World) : Calls Try.prog 48 #[.agg #[.int .i64 x, .int .i64 y, .int .i64 d], .agg #[.int .i64 x', .int .i64 y', .int .i64 d']] w fun e w' => e = .returned (.bool (eqd ((x, y, d) : T3) (x', y', d'))) ∧ Below w.heap.size w w' := by
  go_enter Try.func48, Try.ntmps48
  go_wp2
  all_goals
    go_ret
    exact ⟨ret_bool (by simp_all [eqd]), (by repeat (first | exact Below.refl _ _ | assumption | refine Below.drew ?_ | refine below_drewN ?_ _ | refine Below.alloc ?_ (by first | omega | (simp <;> omega)) _ | refine Below.setCell ?_ (by first | omega | (simp <;> omega)) _))⟩
/-- The cost of matching two features. -/
def costF (a b : T3) : Int := ((a.1 - b.1).natAbs : Int) + ((a.2.1 - b.2.1).natAbs : Int) + 16 * min ((a.2.2 - b.2.2).natAbs : Int) (8 - ((a.2.2 - b.2.2).natAbs : Int))
theorem featB_iff {x y d : Int} : featB x y d = true ↔ (0 ≤ x ∧ x ≤ 255) ∧ (0 ≤ y ∧ y ≤ 255) ∧ (0 ≤ d ∧ d ≤ 7) := by
  unfold featB; simp only [Bool.and_eq_true, inB_iff, and_assoc]
def pairOk (a b : T3) : Bool := featB a.1 a.2.1 a.2.2 && featB b.1 b.2.1 b.2.2
def costV (a b : T3) : Int := if pairOk a b = true then costF a b else 0
def costE (a b : T3) : Int := if pairOk a b = true then 0 else 1
end Go.Proofs.Ytbfilhpgekgmbaa
