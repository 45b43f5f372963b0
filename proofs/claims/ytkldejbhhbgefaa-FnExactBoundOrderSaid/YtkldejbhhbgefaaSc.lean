/- Contracts of the functions on numbers and on small structs by value. -/
import Derived.Test.YtkldejbhhbgefaaRows
import Derived.Test.YtkldejbhhbgefaaPl
import Derived.OpenShut
import Derived.WalkLawsBesides
import Derived.WalkSpells
namespace Go.Proofs.Ytkldejbhhbgefaa
open Go.ChangeShapes Go.WideShapes Go.ChangeAt Go.RowKit

theorem l00In_any (n lo hi : Int) (w : World) : Calls Try.prog 35 #[.int .i64 n, .int .i64 lo, .int .i64 hi] w fun e w' => e = .returned (.bool (inB lo hi n)) ∧ w = w' := by
  go_enter Try.func35, Try.ntmps35
  go_wp2
  all_goals
    go_ret
    exact ⟨by first | rw [inB_lo ‹_›]; rfl | rw [inB_hi ‹_›]; rfl, rfl⟩

theorem within_any (n lo hi : Int) (w : World) : Calls Try.prog 40 #[.int .i64 n, .int .i64 lo, .int .i64 hi] w fun e w' => e = .returned (.bool (inB lo hi n)) ∧ w = w' := by
  go_enter Try.func40, Try.ntmps40
  go_wp2
  all_goals
    go_ret
    exact ⟨by first | rw [inB_lo ‹_›]; rfl | rw [inB_hi ‹_›]; rfl, rfl⟩

theorem l09Size_any (n : Int) (w : World) (h : -9223372036854775807 ≤ n) (h' : n ≤ 9223372036854775807) : Calls Try.prog 103 #[.int .i64 n] w fun e w' => e = .returned (.int .i64 n.natAbs) ∧ w = w' := by
  go_enter Try.func103, Try.ntmps103
  go_wp2
  all_goals
    go_ret
    exact ⟨ret_int (by omega), rfl⟩
theorem abs_any (n : Int) (w : World) (h : -9223372036854775807 ≤ n) (h' : n ≤ 9223372036854775807) : Calls Try.prog 85 #[.int .i64 n] w fun e w' => e = .returned (.int .i64 n.natAbs) ∧ w = w' := by
  go_enter Try.func85, Try.ntmps85
  go_wp2
  all_goals
    go_ret
    exact ⟨ret_int (by omega), rfl⟩

theorem l00Min_any (a b : Int) (w : World) : Calls Try.prog 92 #[.int .i64 a, .int .i64 b] w fun e w' => e = .returned (.int .i64 (min a b)) ∧ w = w' := by
  go_enter Try.func92, Try.ntmps92
  go_wp2
  all_goals
    go_ret
    exact ⟨ret_int (by omega), rfl⟩

theorem l00Max_any (a b : Int) (w : World) : Calls Try.prog 82 #[.int .i64 a, .int .i64 b] w fun e w' => e = .returned (.int .i64 (max a b)) ∧ w = w' := by
  go_enter Try.func82, Try.ntmps82
  go_wp2
  all_goals
    go_ret
    exact ⟨ret_int (by omega), rfl⟩
def featB (x y d : Int) : Bool := inB 0 255 x && inB 0 255 y && inB 0 7 d
theorem iValidFeat_any (x y d : Int) (w : World) : Calls Try.prog 114 #[.agg #[.int .i64 x, .int .i64 y, .int .i64 d]] w fun e w' => e = .returned (.bool (featB x y d)) ∧ Below w.heap.size w w' := by
  go_enter Try.func114, Try.ntmps114
  go_wp2_with (first | (go_at_call 40; refine (within_any _ _ _ _).mono ?_; rintro e w' ⟨rfl, rfl⟩))
  all_goals
    go_ret
    exact ⟨ret_bool (by simp [featB, *]), (by repeat (first | exact Below.refl _ _ | assumption | refine Below.drew ?_ | refine below_drewN ?_ _ | refine Below.alloc ?_ (by first | omega | (simp <;> omega)) _ | refine Below.setCell ?_ (by first | omega | (simp <;> omega)) _))⟩
theorem l09Feat_any (x y d : Int) (w : World) : Calls Try.prog 102 #[.agg #[.int .i64 x, .int .i64 y, .int .i64 d]] w fun e w' => e = .returned (.bool (featB x y d)) ∧ Below w.heap.size w w' := by
  go_enter Try.func102, Try.ntmps102
  go_wp2_with (first | (go_at_call 35; refine (l00In_any _ _ _ _).mono ?_; rintro e w' ⟨rfl, rfl⟩))
  all_goals
    go_ret
    exact ⟨ret_bool (by simp [featB, *]), (by repeat (first | exact Below.refl _ _ | assumption | refine Below.drew ?_ | refine below_drewN ?_ _ | refine Below.alloc ?_ (by first | omega | (simp <;> omega)) _ | refine Below.setCell ?_ (by first | omega | (simp <;> omega)) _))⟩
theorem toFeat_any (x y d : Int) (w : World) : Calls Try.prog 49 #[.agg #[.int .i64 x, .int .i64 y, .int .i64 d]] w fun e w' => e = .returned (.agg #[.int .i64 x, .int .i64 y, .int .i64 d]) ∧ Below w.heap.size w w' := by
  go_enter Try.func49, Try.ntmps49
  go_wp2
  exact bodyPost_ret (v := .agg #[.int .i64 x, .int .i64 y, .int .i64 d]) (by simp [results, Try.results49, go_sem]) rfl ⟨rfl, (by repeat (first | exact Below.refl _ _ | assumption | refine Below.drew ?_ | refine below_drewN ?_ _ | refine Below.alloc ?_ (by first | omega | (simp <;> omega)) _ | refine Below.setCell ?_ (by first | omega | (simp <;> omega)) _))⟩
theorem eqFeat_any (x y d x' y' d' : Int) (w : World) : Calls Try.prog 56 #[.agg #[.int .i64 x, .int .i64 y, .int .i64 d], .agg #[.int .i64 x', .int .i64 y', .int .i64 d']] w fun e w' => e = .returned (.bool (eqd ((x, y, d) : T3) (x', y', d'))) ∧ Below w.heap.size w w' := by
  go_enter Try.func56, Try.ntmps56
  go_wp2
  all_goals
    go_ret
    exact ⟨ret_bool (by simp_all [eqd]), (by repeat (first | exact Below.refl _ _ | assumption | refine Below.drew ?_ | refine below_drewN ?_ _ | refine Below.alloc ?_ (by first | omega | (simp <;> omega)) _ | refine Below.setCell ?_ (by first | omega | (simp <;> omega)) _))⟩
/-- The cost of matching two features. -/
def costF (a b : T3) : Int := ((a.1 - b.1).natAbs : Int) + ((a.2.1 - b.2.1).natAbs : Int) + 16 * min ((a.2.2 - b.2.2).natAbs : Int) (8 - ((a.2.2 - b.2.2).natAbs : Int))
theorem featB_iff {x y d : Int} : featB x y d = true ↔ (0 ≤ x ∧ x ≤ 255) ∧ (0 ≤ y ∧ y ≤ 255) ∧ (0 ≤ d ∧ d ≤ 7) := by
  unfold featB; simp only [Bool.and_eq_true, inB_iff, and_assoc]
theorem l09Cost_any (x y d x' y' d' : Int) (w : World) (h : featB x y d = true) (h' : featB x' y' d' = true) :
    Calls Try.prog 106 #[.agg #[.int .i64 x, .int .i64 y, .int .i64 d], .agg #[.int .i64 x', .int .i64 y', .int .i64 d']] w fun e w' => e = .returned (.int .i64 (costF (x, y, d) (x', y', d'))) ∧ Below w.heap.size w w' := by
  obtain ⟨⟨hx0, hx1⟩, ⟨hy0, hy1⟩, ⟨hd0, hd1⟩⟩ := featB_iff.1 h
  obtain ⟨⟨hx0', hx1'⟩, ⟨hy0', hy1'⟩, ⟨hd0', hd1'⟩⟩ := featB_iff.1 h'
  clear h h'
  go_enter Try.func106, Try.ntmps106
  go_wp2_with fail
  refine (l09Size_any _ _ (by omega) (by omega)).mono ?_
  rintro e w' ⟨rfl, rfl⟩
  generalize hdd : ((d - d').natAbs : Int) = dd
  have d0 : 0 ≤ dd := by omega
  have d1 : dd ≤ 7 := by omega
  have Hdd := Lib.hid hdd
  clear hdd
  go_wp2
  have z1 := fun W => l09Size_any (x - x') W (by omega) (by omega)
  have z2 := fun W => l09Size_any (y - y') W (by omega) (by omega)
  have Z1 := Lib.hid z1
  have Z2 := Lib.hid z2
  clear z1 z2
  go_quiet ((first | (go_at_call 103; first | (with_reducible exact quiet_left (Z1.out _)) | (with_reducible exact quiet_left (Z2.out _))) | (go_at_call 92; with_reducible exact quiet_left (l00Min_any _ _ _))))
  go_wp2
  go_ret
  exact ⟨ret_int (by unfold costF; rw [Hdd.out]), (by repeat (first | exact Below.refl _ _ | assumption | refine Below.drew ?_ | refine below_drewN ?_ _ | refine Below.alloc ?_ (by first | omega | (simp <;> omega)) _ | refine Below.setCell ?_ (by first | omega | (simp <;> omega)) _))⟩
theorem featCost_any (x y d x' y' d' : Int) (w : World) (h : featB x y d = true) (h' : featB x' y' d' = true) :
    Calls Try.prog 108 #[.agg #[.int .i64 x, .int .i64 y, .int .i64 d], .agg #[.int .i64 x', .int .i64 y', .int .i64 d']] w fun e w' => e = .returned (.int .i64 (costF (x, y, d) (x', y', d'))) ∧ Below w.heap.size w w' := by
  obtain ⟨⟨hx0, hx1⟩, ⟨hy0, hy1⟩, ⟨hd0, hd1⟩⟩ := featB_iff.1 h
  obtain ⟨⟨hx0', hx1'⟩, ⟨hy0', hy1'⟩, ⟨hd0', hd1'⟩⟩ := featB_iff.1 h'
  clear h h'
  go_enter Try.func108, Try.ntmps108
  go_wp2_with fail
  refine (abs_any _ _ (by omega) (by omega)).mono ?_
  rintro e w' ⟨rfl, rfl⟩
  generalize hdd : ((d - d').natAbs : Int) = dd
  have d0 : 0 ≤ dd := by omega
  have d1 : dd ≤ 7 := by omega
  have Hdd := Lib.hid hdd
  clear hdd
  go_wp2
  have z1 := fun W => abs_any (x - x') W (by omega) (by omega)
  have z2 := fun W => abs_any (y - y') W (by omega) (by omega)
  have Z1 := Lib.hid z1
  have Z2 := Lib.hid z2
  clear z1 z2
  go_quiet ((first | (go_at_call 85; first | (with_reducible exact quiet_left (Z1.out _)) | (with_reducible exact quiet_left (Z2.out _)))))
  all_goals go_wp2
  all_goals
    go_ret
    exact ⟨ret_int (by unfold costF; simp only [Hdd.out]; omega), (by repeat (first | exact Below.refl _ _ | assumption | refine Below.drew ?_ | refine below_drewN ?_ _ | refine Below.alloc ?_ (by first | omega | (simp <;> omega)) _ | refine Below.setCell ?_ (by first | omega | (simp <;> omega)) _))⟩
def pairOk (a b : T3) : Bool := featB a.1 a.2.1 a.2.2 && featB b.1 b.2.1 b.2.2
def costV (a b : T3) : Int := if pairOk a b = true then costF a b else 0
def costE (a b : T3) : Int := if pairOk a b = true then 0 else 1
end Go.Proofs.Ytkldejbhhbgefaa
