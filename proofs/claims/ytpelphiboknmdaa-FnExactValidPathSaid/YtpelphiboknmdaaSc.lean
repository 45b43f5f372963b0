/- Contracts of the functions on numbers and on small structs by value. -/
import Derived.Test.YtpelphiboknmdaaRows
import Derived.Test.YtpelphiboknmdaaPl
import Derived.OpenShut
import Derived.WalkLawsBesides
import Derived.WalkSpells
namespace Go.Proofs.Ytpelphiboknmdaa
open Go.ChangeShapes Go.WideShapes Go.ChangeAt Go.RowKit

theorem l00In_any (n lo hi : Int) (w : World) : Calls Try.prog 85 #[.int .i64 n, .int .i64 lo, .int .i64 hi] w fun e w' => e = .returned (.bool (inB lo hi n)) ∧ w = w' := by
  go_enter Try.func85, Try.ntmps85
  go_wp2
  all_goals
    go_ret
    exact ⟨by first | rw [inB_lo ‹_›]; rfl | rw [inB_hi ‹_›]; rfl, rfl⟩

theorem within_any (n lo hi : Int) (w : World) : Calls Try.prog 56 #[.int .i64 n, .int .i64 lo, .int .i64 hi] w fun e w' => e = .returned (.bool (inB lo hi n)) ∧ w = w' := by
  go_enter Try.func56, Try.ntmps56
  go_wp2
  all_goals
    go_ret
    exact ⟨by first | rw [inB_lo ‹_›]; rfl | rw [inB_hi ‹_›]; rfl, rfl⟩

theorem l09Size_any (n : Int) (w : World) (h : -9223372036854775807 ≤ n) (h' : n ≤ 9223372036854775807) : Calls Try.prog 86 #[.int .i64 n] w fun e w' => e = .returned (.int .i64 n.natAbs) ∧ w = w' := by
  go_enter Try.func86, Try.ntmps86
  go_wp2
  all_goals
    go_ret
    exact ⟨ret_int (by omega), rfl⟩
theorem abs_any (n : Int) (w : World) (h : -9223372036854775807 ≤ n) (h' : n ≤ 9223372036854775807) : Calls Try.prog 88 #[.int .i64 n] w fun e w' => e = .returned (.int .i64 n.natAbs) ∧ w = w' := by
  go_enter Try.func88, Try.ntmps88
  go_wp2
  all_goals
    go_ret
    exact ⟨ret_int (by omega), rfl⟩

theorem l00Min_any (a b : Int) (w : World) : Calls Try.prog 87 #[.int .i64 a, .int .i64 b] w fun e w' => e = .returned (.int .i64 (min a b)) ∧ w = w' := by
  go_enter Try.func87, Try.ntmps87
  go_wp2
  all_goals
    go_ret
    exact ⟨ret_int (by omega), rfl⟩

theorem l00Max_any (a b : Int) (w : World) : Calls Try.prog 92 #[.int .i64 a, .int .i64 b] w fun e w' => e = .returned (.int .i64 (max a b)) ∧ w = w' := by
  go_enter Try.func92, Try.ntmps92
  go_wp2
  all_goals
    go_ret
    exact ⟨ret_int (by omega), rfl⟩
def featB (x y d : Int) : Bool := inB 0 255 x && inB 0 255 y && inB 0 7 d
theorem l08Feat_any (x y d : Int) (w : World) : Calls Try.prog 55 #[.agg #[.int .i64 x, .int .i64 y, .int .i64 d]] w fun e w' => e = .returned (.bool (featB x y d)) ∧ Below w.heap.size w w' := by
  go_enter Try.func55, Try.ntmps55
  go_wp2_with (first | (go_at_call 85; refine (l00In_any _ _ _ _).mono ?_; rintro e w' ⟨rfl, rfl⟩))
  all_goals
    go_ret
    exact ⟨ret_bool (by simp [featB, *]), (by repeat (first | exact Below.refl _ _ | assumption | refine Below.drew ?_ | refine below_drewN ?_ _ | refine Below.alloc ?_ (by simp <;> omega) _ | refine Below.setCell ?_ (by simp <;> omega) _))⟩
theorem iValidFeat_any (x y d : Int) (w : World) : Calls Try.prog 17 #[.agg #[.int .i64 x, .int .i64 y, .int .i64 d]] w fun e w' => e = .returned (.bool (featB x y d)) ∧ Below w.heap.size w w' := by
  go_enter Try.func17, Try.ntmps17
  go_wp2_with (first | (go_at_call 56; refine (within_any _ _ _ _).mono ?_; rintro e w' ⟨rfl, rfl⟩))
  all_goals
    go_ret
    exact ⟨ret_bool (by simp [featB, *]), (by repeat (first | exact Below.refl _ _ | assumption | refine Below.drew ?_ | refine below_drewN ?_ _ | refine Below.alloc ?_ (by simp <;> omega) _ | refine Below.setCell ?_ (by simp <;> omega) _))⟩
theorem l09Feat_any (x y d : Int) (w : World) : Calls Try.prog 57 #[.agg #[.int .i64 x, .int .i64 y, .int .i64 d]] w fun e w' => e = .returned (.bool (featB x y d)) ∧ Below w.heap.size w w' := by
  go_enter Try.func57, Try.ntmps57
  go_wp2_with (first | (go_at_call 85; refine (l00In_any _ _ _ _).mono ?_; rintro e w' ⟨rfl, rfl⟩))
  all_goals
    go_ret
    exact ⟨ret_bool (by simp [featB, *]), (by repeat (first | exact Below.refl _ _ | assumption | refine Below.drew ?_ | refine below_drewN ?_ _ | refine Below.alloc ?_ (by simp <;> omega) _ | refine Below.setCell ?_ (by simp <;> omega) _))⟩
theorem sValidFeat_any (x y d : Int) (w : World) : Calls Try.prog 15 #[.agg #[.int .i64 x, .int .i64 y, .int .i64 d]] w fun e w' => e = .returned (.bool (featB x y d)) ∧ Below w.heap.size w w' := by
  go_enter Try.func15, Try.ntmps15
  go_wp2_with (first | (go_at_call 55; refine (l08Feat_any _ _ _ _).mono ?_; rintro e w' ⟨rfl, hb2⟩))
  go_ret
  exact ⟨rfl, below_app (B := w.heap.size) (by repeat (first | exact Below.refl _ _ | assumption | refine Below.drew ?_ | refine below_drewN ?_ _ | refine Below.alloc ?_ (by simp <;> omega) _ | refine Below.setCell ?_ (by simp <;> omega) _)) hb2 (by simp)⟩
theorem toFeat_any (x y d : Int) (w : World) : Calls Try.prog 16 #[.agg #[.int .i64 x, .int .i64 y, .int .i64 d]] w fun e w' => e = .returned (.agg #[.int .i64 x, .int .i64 y, .int .i64 d]) ∧ Below w.heap.size w w' := by
  go_enter Try.func16, Try.ntmps16
  go_wp2
  exact bodyPost_ret (v := .agg #[.int .i64 x, .int .i64 y, .int .i64 d]) (by simp [results, Try.results16, go_sem]) rfl ⟨rfl, (by repeat (first | exact Below.refl _ _ | assumption | refine Below.drew ?_ | refine below_drewN ?_ _ | refine Below.alloc ?_ (by simp <;> omega) _ | refine Below.setCell ?_ (by simp <;> omega) _))⟩
theorem eqFeat_any (x y d x' y' d' : Int) (w : World) : Calls Try.prog 62 #[.agg #[.int .i64 x, .int .i64 y, .int .i64 d], .agg #[.int .i64 x', .int .i64 y', .int .i64 d']] w fun e w' => e = .returned (.bool (eqd ((x, y, d) : T3) (x', y', d'))) ∧ Below w.heap.size w w' := by
  go_enter Try.func62, Try.ntmps62
  go_wp2
  all_goals
    go_ret
    exact ⟨ret_bool (by simp_all [eqd]), (by repeat (first | exact Below.refl _ _ | assumption | refine Below.drew ?_ | refine below_drewN ?_ _ | refine Below.alloc ?_ (by simp <;> omega) _ | refine Below.setCell ?_ (by simp <;> omega) _))⟩
/-- The cost of matching two features. -/
def costF (a b : T3) : Int := ((a.1 - b.1).natAbs : Int) + ((a.2.1 - b.2.1).natAbs : Int) + 16 * min ((a.2.2 - b.2.2).natAbs : Int) (8 - ((a.2.2 - b.2.2).natAbs : Int))
theorem featB_iff {x y d : Int} : featB x y d = true ↔ (0 ≤ x ∧ x ≤ 255) ∧ (0 ≤ y ∧ y ≤ 255) ∧ (0 ≤ d ∧ d ≤ 7) := by
  unfold featB; simp only [Bool.and_eq_true, inB_iff, and_assoc]
theorem l09Cost_any (x y d x' y' d' : Int) (w : World) (h : featB x y d = true) (h' : featB x' y' d' = true) :
    Calls Try.prog 58 #[.agg #[.int .i64 x, .int .i64 y, .int .i64 d], .agg #[.int .i64 x', .int .i64 y', .int .i64 d']] w fun e w' => e = .returned (.int .i64 (costF (x, y, d) (x', y', d'))) ∧ Below w.heap.size w w' := by
  obtain ⟨⟨hx0, hx1⟩, ⟨hy0, hy1⟩, ⟨hd0, hd1⟩⟩ := featB_iff.1 h
  obtain ⟨⟨hx0', hx1'⟩, ⟨hy0', hy1'⟩, ⟨hd0', hd1'⟩⟩ := featB_iff.1 h'
  clear h h'
  go_enter Try.func58, Try.ntmps58
  go_wp2_with fail
  refine (l09Size_any _ _ (by omega) (by omega)).mono ?_
  rintro e w' ⟨rfl, rfl⟩
  generalize hdd : ((d - d').natAbs : Int) = dd
  have d0 : 0 ≤ dd := by omega
  have d1 : dd ≤ 7 := by omega
  have Hdd := Lib.hid hdd
  clear hdd
  go_wp2
  have z1 := fun W => l09Size_any (x - x') W (by omega) (by omega)
  have z2 := fun W => l09Size_any (y - y') W (by omega) (by omega)
  have Z1 := Lib.hid z1
  have Z2 := Lib.hid z2
  clear z1 z2
  go_quiet ((first | (go_at_call 86; first | (with_reducible exact quiet_left (Z1.out _)) | (with_reducible exact quiet_left (Z2.out _))) | (go_at_call 87; with_reducible exact quiet_left (l00Min_any _ _ _))))
  go_wp2
  go_ret
  exact ⟨ret_int (by unfold costF; rw [Hdd.out]), (by repeat (first | exact Below.refl _ _ | assumption | refine Below.drew ?_ | refine below_drewN ?_ _ | refine Below.alloc ?_ (by simp <;> omega) _ | refine Below.setCell ?_ (by simp <;> omega) _))⟩
theorem featCost_any (x y d x' y' d' : Int) (w : World) (h : featB x y d = true) (h' : featB x' y' d' = true) :
    Calls Try.prog 59 #[.agg #[.int .i64 x, .int .i64 y, .int .i64 d], .agg #[.int .i64 x', .int .i64 y', .int .i64 d']] w fun e w' => e = .returned (.int .i64 (costF (x, y, d) (x', y', d'))) ∧ Below w.heap.size w w' := by
  obtain ⟨⟨hx0, hx1⟩, ⟨hy0, hy1⟩, ⟨hd0, hd1⟩⟩ := featB_iff.1 h
  obtain ⟨⟨hx0', hx1'⟩, ⟨hy0', hy1'⟩, ⟨hd0', hd1'⟩⟩ := featB_iff.1 h'
  clear h h'
  go_enter Try.func59, Try.ntmps59
  go_wp2_with fail
  refine (abs_any _ _ (by omega) (by omega)).mono ?_
  rintro e w' ⟨rfl, rfl⟩
  generalize hdd : ((d - d').natAbs : Int) = dd
  have d0 : 0 ≤ dd := by omega
  have d1 : dd ≤ 7 := by omega
  have Hdd := Lib.hid hdd
  clear hdd
  go_wp2
  have z1 := fun W => abs_any (x - x') W (by omega) (by omega)
  have z2 := fun W => abs_any (y - y') W (by omega) (by omega)
  have Z1 := Lib.hid z1
  have Z2 := Lib.hid z2
  clear z1 z2
  go_quiet ((first | (go_at_call 88; first | (with_reducible exact quiet_left (Z1.out _)) | (with_reducible exact quiet_left (Z2.out _)))))
  all_goals go_wp2
  all_goals
    go_ret
    exact ⟨ret_int (by unfold costF; simp only [Hdd.out]; omega), (by repeat (first | exact Below.refl _ _ | assumption | refine Below.drew ?_ | refine below_drewN ?_ _ | refine Below.alloc ?_ (by simp <;> omega) _ | refine Below.setCell ?_ (by simp <;> omega) _))⟩
def pairOk (a b : T3) : Bool := featB a.1 a.2.1 a.2.2 && featB b.1 b.2.1 b.2.2
def costV (a b : T3) : Int := if pairOk a b = true then costF a b else 0
def costE (a b : T3) : Int := if pairOk a b = true then 0 else 1
set_option maxHeartbeats 1000000 in
theorem sFeatCost_any (x y d x' y' d' : Int) (w : World) :
    Calls Try.prog 18 #[.agg #[.int .i64 x, .int .i64 y, .int .i64 d], .agg #[.int .i64 x', .int .i64 y', .int .i64 d']] w fun e w' => e = .returned (.tuple #[.int .i64 (costV (x, y, d) (x', y', d')), .int .i64 (costE (x, y, d) (x', y', d'))]) ∧ Below w.heap.size w w' := by
  obtain ⟨B1, B2⟩ := Cell3.two w x y d x' y' d' 25 25
  by_cases h1 : featB x y d = true
  · have H1 := Lib.hid h1
    by_cases h2 : featB x' y' d' = true
    · have H2 := Lib.hid h2
      go_enter Try.func18, Try.ntmps18
      go_wp2_with fail
      refine (l09Feat_any _ _ _ _).mono ?_
      rintro e w1 ⟨rfl, hb1⟩
      obtain ⟨e0, e1, e2⟩ := B1.on hb1
      obtain ⟨q0, q1, q2⟩ := B2.on hb1
      go_wp2_with fail
      clear e0 e1 e2 q0 q1 q2
      refine (l09Feat_any _ _ _ _).mono ?_
      rintro e w2 ⟨rfl, hb2⟩
      obtain ⟨e0, e1, e2⟩ := (B1.on hb1).on hb2
      obtain ⟨q0, q1, q2⟩ := (B2.on hb1).on hb2
      go_wp2_with fail
      clear e0 e1 e2 q0 q1 q2
      refine (l09Cost_any _ _ _ _ _ _ _ H1.out H2.out).mono ?_
      rintro e w3 ⟨rfl, hb3⟩
      go_wp2
      go_ret2
      have s1 := hb1.size
      have s2 := hb2.size
      simp only [World.size_alloc] at s1
      have hz : pairOk (x, y, d) (x', y', d') = true := by unfold pairOk; simp only [H1.out, H2.out, Bool.and_self]
      exact ⟨ret_ii (by unfold costV; rw [if_pos hz]) (by unfold costE; rw [if_pos hz]), below_app (below_app (below_app (B := w.heap.size) (by repeat (first | exact Below.refl _ _ | assumption | refine Below.drew ?_ | refine below_drewN ?_ _ | refine Below.alloc ?_ (by simp <;> omega) _ | refine Below.setCell ?_ (by simp <;> omega) _)) hb1 (by simp <;> omega)) hb2 (by omega)) hb3 (by omega)⟩
    · have H2 : Hid (featB x' y' d' = false) := by simpa [Hid] using h2
      have h2' := H2.out
      go_enter Try.func18, Try.ntmps18
      go_wp2_with fail
      refine (l09Feat_any _ _ _ _).mono ?_
      rintro e w1 ⟨rfl, hb1⟩
      obtain ⟨e0, e1, e2⟩ := B1.on hb1
      obtain ⟨q0, q1, q2⟩ := B2.on hb1
      go_wp2_with fail
      clear e0 e1 e2 q0 q1 q2
      refine (l09Feat_any _ _ _ _).mono ?_
      rintro e w2 ⟨rfl, hb2⟩
      go_wp2
      go_ret2
      have s1 := hb1.size
      simp only [World.size_alloc] at s1
      have hz : ¬ pairOk (x, y, d) (x', y', d') = true := by unfold pairOk; simp only [H1.out, H2.out]; decide
      exact ⟨ret_ii (by unfold costV; rw [if_neg hz]) (by unfold costE; rw [if_neg hz]), below_app (below_app (B := w.heap.size) (by repeat (first | exact Below.refl _ _ | assumption | refine Below.drew ?_ | refine below_drewN ?_ _ | refine Below.alloc ?_ (by simp <;> omega) _ | refine Below.setCell ?_ (by simp <;> omega) _)) hb1 (by simp <;> omega)) hb2 (by omega)⟩
  · have H1 : Hid (featB x y d = false) := by simpa [Hid] using h1
    have h1' := H1.out
    go_enter Try.func18, Try.ntmps18
    go_wp2_with fail
    refine (l09Feat_any _ _ _ _).mono ?_
    rintro e w1 ⟨rfl, hb1⟩
    go_wp2
    go_ret2
    have hz : ¬ pairOk (x, y, d) (x', y', d') = true := by unfold pairOk; simp only [H1.out, Bool.false_and]; decide
    exact ⟨ret_ii (by unfold costV; rw [if_neg hz]) (by unfold costE; rw [if_neg hz]), below_app (B := w.heap.size) (by repeat (first | exact Below.refl _ _ | assumption | refine Below.drew ?_ | refine below_drewN ?_ _ | refine Below.alloc ?_ (by simp <;> omega) _ | refine Below.setCell ?_ (by simp <;> omega) _)) hb1 (by simp <;> omega)⟩
set_option maxHeartbeats 1000000 in
theorem iFeatCost_any (x y d x' y' d' : Int) (w : World) :
    Calls Try.prog 19 #[.agg #[.int .i64 x, .int .i64 y, .int .i64 d], .agg #[.int .i64 x', .int .i64 y', .int .i64 d']] w fun e w' => e = .returned (.tuple #[.int .i64 (costV (x, y, d) (x', y', d')), .int .i64 (costE (x, y, d) (x', y', d'))]) ∧ Below w.heap.size w w' := by
  obtain ⟨B1, B2⟩ := Cell3.two w x y d x' y' d' 25 25
  by_cases h1 : featB x y d = true
  · have H1 := Lib.hid h1
    by_cases h2 : featB x' y' d' = true
    · have H2 := Lib.hid h2
      go_enter Try.func19, Try.ntmps19
      go_wp2_with fail
      refine (iValidFeat_any _ _ _ _).mono ?_
      rintro e w1 ⟨rfl, hb1⟩
      obtain ⟨e0, e1, e2⟩ := B1.on hb1
      obtain ⟨q0, q1, q2⟩ := B2.on hb1
      go_wp2_with fail
      clear e0 e1 e2 q0 q1 q2
      refine (iValidFeat_any _ _ _ _).mono ?_
      rintro e w2 ⟨rfl, hb2⟩
      obtain ⟨e0, e1, e2⟩ := (B1.on hb1).on hb2
      obtain ⟨q0, q1, q2⟩ := (B2.on hb1).on hb2
      go_wp2_with fail
      clear e0 e1 e2 q0 q1 q2
      refine (featCost_any _ _ _ _ _ _ _ H1.out H2.out).mono ?_
      rintro e w3 ⟨rfl, hb3⟩
      go_wp2
      go_ret2
      have s1 := hb1.size
      have s2 := hb2.size
      simp only [World.size_alloc] at s1
      have hz : pairOk (x, y, d) (x', y', d') = true := by unfold pairOk; simp only [H1.out, H2.out, Bool.and_self]
      exact ⟨ret_ii (by unfold costV; rw [if_pos hz]) (by unfold costE; rw [if_pos hz]), below_app (below_app (below_app (B := w.heap.size) (by repeat (first | exact Below.refl _ _ | assumption | refine Below.drew ?_ | refine below_drewN ?_ _ | refine Below.alloc ?_ (by simp <;> omega) _ | refine Below.setCell ?_ (by simp <;> omega) _)) hb1 (by simp <;> omega)) hb2 (by omega)) hb3 (by omega)⟩
    · have H2 : Hid (featB x' y' d' = false) := by simpa [Hid] using h2
      have h2' := H2.out
      go_enter Try.func19, Try.ntmps19
      go_wp2_with fail
      refine (iValidFeat_any _ _ _ _).mono ?_
      rintro e w1 ⟨rfl, hb1⟩
      obtain ⟨e0, e1, e2⟩ := B1.on hb1
      obtain ⟨q0, q1, q2⟩ := B2.on hb1
      go_wp2_with fail
      clear e0 e1 e2 q0 q1 q2
      refine (iValidFeat_any _ _ _ _).mono ?_
      rintro e w2 ⟨rfl, hb2⟩
      go_wp2
      go_ret2
      have s1 := hb1.size
      simp only [World.size_alloc] at s1
      have hz : ¬ pairOk (x, y, d) (x', y', d') = true := by unfold pairOk; simp only [H1.out, H2.out]; decide
      exact ⟨ret_ii (by unfold costV; rw [if_neg hz]) (by unfold costE; rw [if_neg hz]), below_app (below_app (B := w.heap.size) (by repeat (first | exact Below.refl _ _ | assumption | refine Below.drew ?_ | refine below_drewN ?_ _ | refine Below.alloc ?_ (by simp <;> omega) _ | refine Below.setCell ?_ (by simp <;> omega) _)) hb1 (by simp <;> omega)) hb2 (by omega)⟩
  · have H1 : Hid (featB x y d = false) := by simpa [Hid] using h1
    have h1' := H1.out
    go_enter Try.func19, Try.ntmps19
    go_wp2_with fail
    refine (iValidFeat_any _ _ _ _).mono ?_
    rintro e w1 ⟨rfl, hb1⟩
    go_wp2
    go_ret2
    have hz : ¬ pairOk (x, y, d) (x', y', d') = true := by unfold pairOk; simp only [H1.out, Bool.false_and]; decide
    exact ⟨ret_ii (by unfold costV; rw [if_neg hz]) (by unfold costE; rw [if_neg hz]), below_app (B := w.heap.size) (by repeat (first | exact Below.refl _ _ | assumption | refine Below.drew ?_ | refine below_drewN ?_ _ | refine Below.alloc ?_ (by simp <;> omega) _ | refine Below.setCell ?_ (by simp <;> omega) _)) hb1 (by simp <;> omega)⟩
end Go.Proofs.Ytpelphiboknmdaa
