/- Contracts of the functions on numbers and on small structs by value. -/
import Derived.Test.YtnjifhlabbejoaaGreatDoorRows
import Derived.Test.YtnjifhlabbejoaaGreatDoorPl
import Derived.OpenShut
import Derived.WalkLawsBesides
import Derived.WalkSpells
namespace Go.Proofs.YtnjifhlabbejoaaGreatDoor
open Go.ChangeShapes Go.WideShapes Go.ChangeAt Go.RowKit

theorem l00In_any (n lo hi : Int) (w : World) : Calls Tryz.prog 46 #[.int .i64 n, .int .i64 lo, .int .i64 hi] w fun e w' => e = .returned (.bool (inB lo hi n)) ∧ w = w' := by
  go_enter Tryz.func46, Tryz.ntmps46
  go_wp2
  all_goals
    go_ret
    exact ⟨by first | rw [inB_lo ‹_›]; rfl | rw [inB_hi ‹_›]; rfl, rfl⟩

theorem within_any (n lo hi : Int) (w : World) : Calls Tryz.prog 30 #[.int .i64 n, .int .i64 lo, .int .i64 hi] w fun e w' => e = .returned (.bool (inB lo hi n)) ∧ w = w' := by
  go_enter Tryz.func30, Tryz.ntmps30
  go_wp2
  all_goals
    go_ret
    exact ⟨by first | rw [inB_lo ‹_›]; rfl | rw [inB_hi ‹_›]; rfl, rfl⟩

def featB (x y d : Int) : Bool := inB 0 255 x && inB 0 255 y && inB 0 7 d
theorem iValidFeat_any (x y d : Int) (w : World) : Calls Tryz.prog 96 #[.agg #[.int .i64 x, .int .i64 y, .int .i64 d]] w fun e w' => e = .returned (.bool (featB x y d)) ∧ Below w.heap.size w w' := by
  go_enter Tryz.func96, Tryz.ntmps96
  go_wp2_with (first | (go_at_call 30; refine (within_any _ _ _ _).mono ?_; rintro e w' ⟨rfl, rfl⟩))
  all_goals
    go_ret
    exact ⟨ret_bool (by simp [featB, *]), (by repeat (first | exact Below.refl _ _ | assumption | refine Below.drew ?_ | refine below_drewN ?_ _ | refine Below.alloc ?_ (by first | omega | (simp <;> omega)) _ | refine Below.setCell ?_ (by first | omega | (simp <;> omega)) _))⟩
theorem l09Feat_any (x y d : Int) (w : World) : Calls Tryz.prog 80 #[.agg #[.int .i64 x, .int .i64 y, .int .i64 d]] w fun e w' => e = .returned (.bool (featB x y d)) ∧ Below w.heap.size w w' := by
  go_enter Tryz.func80, Tryz.ntmps80
  go_wp2_with (first | (go_at_call 46; refine (l00In_any _ _ _ _).mono ?_; rintro e w' ⟨rfl, rfl⟩))
  all_goals
    go_ret
    exact ⟨ret_bool (by simp [featB, *]), (by repeat (first | exact Below.refl _ _ | assumption | refine Below.drew ?_ | refine below_drewN ?_ _ | refine Below.alloc ?_ (by first | omega | (simp <;> omega)) _ | refine Below.setCell ?_ (by first | omega | (simp <;> omega)) _))⟩
theorem eqFeat_any (x y d x' y' d' : Int) (w : World) : Calls Tryz.prog 78 #[.agg #[.int .i64 x, .int .i64 y, .int .i64 d], .agg #[.int .i64 x', .int .i64 y', .int .i64 d']] w fun e w' => e = .returned (.bool (eqd ((x, y, d) : T3) (x', y', d'))) ∧ Below w.heap.size w w' := by
  go_enter Tryz.func78, Tryz.ntmps78
  go_wp2
  all_goals
    go_ret
    exact ⟨ret_bool (by simp_all [eqd]), (by repeat (first | exact Below.refl _ _ | assumption | refine Below.drew ?_ | refine below_drewN ?_ _ | refine Below.alloc ?_ (by first | omega | (simp <;> omega)) _ | refine Below.setCell ?_ (by first | omega | (simp <;> omega)) _))⟩
/-- The cost of matching two features. -/
def costF (a b : T3) : Int := ((a.1 - b.1).natAbs : Int) + ((a.2.1 - b.2.1).natAbs : Int) + 16 * min ((a.2.2 - b.2.2).natAbs : Int) (8 - ((a.2.2 - b.2.2).natAbs : Int))
theorem featB_iff {x y d : Int} : featB x y d = true ↔ (0 ≤ x ∧ x ≤ 255) ∧ (0 ≤ y ∧ y ≤ 255) ∧ (0 ≤ d ∧ d ≤ 7) := by
  unfold featB; simp only [Bool.and_eq_true, inB_iff, and_assoc]
def pairOk (a b : T3) : Bool := featB a.1 a.2.1 a.2.2 && featB b.1 b.2.1 b.2.2
def costV (a b : T3) : Int := if pairOk a b = true then costF a b else 0
def costE (a b : T3) : Int := if pairOk a b = true then 0 else 1
end Go.Proofs.YtnjifhlabbejoaaGreatDoor
