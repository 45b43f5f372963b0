/- Contracts of BoxOfSpots, and of the joining of boxes. -/
import Derived.Test.YtbfilhpgekgmbaaSc
import Derived.Test.YtbfilhpgekgmbaaFlSpot
import Derived.Test.YtbfilhpgekgmbaaPm
import Derived.Deep.RegionHeld3
namespace Go.Proofs.Ytbfilhpgekgmbaa
open Go.ChangeShapes Go.WideShapes Go.ChangeAt Go.RowKit
theorem Blk.set4 {w : World} {g : Nat} {t : TypeId} {a b c d : Value} (h : Blk w g t #[a, b, c, d]) (a' b' c' d' : Value) :
    Blk ((((w.setCell ⟨g, 0, none⟩ a').setCell ⟨g, 1, none⟩ b').setCell ⟨g, 2, none⟩ c').setCell ⟨g, 3, none⟩ d') g t #[a', b', c', d'] := by
  have := (((h.set_ 0 a').set_ 1 b').set_ 2 c').set_ 3 d'
  simpa using this
theorem Blk.far4 {w : World} {g : Nat} {t : TypeId} {cs : Array Value} (h : Blk w g t cs) {g' : Nat} (hg : g ≠ g') (a b c d : Value) :
    Blk ((((w.setCell ⟨g', 0, none⟩ a).setCell ⟨g', 1, none⟩ b).setCell ⟨g', 2, none⟩ c).setCell ⟨g', 3, none⟩ d) g t cs := (((h.far hg a).far hg b).far hg c).far hg d
abbrev v4 (x : T4) : Array Value := #[.int .i64 x.1, .int .i64 x.2.1, .int .i64 x.2.2.1, .int .i64 x.2.2.2]
def joinB (a b : T4) : T4 := (min a.1 b.1, min a.2.1 b.2.1, max a.2.2.1 b.2.2.1, max a.2.2.2 b.2.2.2)
def spB (p : T2) : T4 := (p.1, p.2, p.1, p.2)
def spOk (p : T2) : Bool := inB 0 4095 p.1 && inB 0 4095 p.2
def boxE (xs : List T2) : Int := if xs.all spOk = true then (if xs.length = 0 then 6 else 0) else 1
def boxFrom (xs : List T2) (b : T4) : T4 := xs.foldl (fun b p => joinB b (spB p)) b
def boxV (xs : List T2) : T4 := if xs.all spOk = true then boxFrom xs (spB (xs.getD 0 (0, 0))) else (0, 0, 0, 0)
theorem joinB_self (p : T2) : joinB (spB p) (spB p) = spB p := by unfold joinB spB; simp
theorem boxFrom_step {xs : List T2} {k : Nat} {b : T4} {p : T2} (h : xs[k]? = some p) : boxFrom (xs.take (k + 1)) b = joinB (boxFrom (xs.take k) b) (spB p) := fold_step (f := fun b p => joinB b (spB p)) h
theorem box_bad {xs : List T2} {k : Nat} {p : T2} (h : xs[k]? = some p) (hp : spOk p = false) : boxE xs = 1 ∧ boxV xs = (0, 0, 0, 0) := by
  unfold boxE boxV
  rw [all_fail h hp, if_neg (by decide), if_neg (by decide)]
  exact ⟨rfl, rfl⟩
theorem box_none {xs : List T2} (hl : xs.length = 0) (h : xs.all spOk = true) : boxE xs = 6 ∧ boxV xs = (0, 0, 0, 0) := by
  obtain rfl := List.eq_nil_of_length_eq_zero hl
  exact ⟨rfl, by first | rfl | decide⟩
theorem box_good {xs : List T2} {p : T2} {n : Nat} (hl : xs.length = n) (h : xs.all spOk = true) (hx : xs[0]? = some p) (hn : n ≠ 0) : boxE xs = 0 ∧ boxV xs = boxFrom (xs.take n) (spB p) := by
  unfold boxE boxV
  rw [if_pos h, if_pos h, if_neg (by omega), getD_of hx, List.take_of_length_le (by omega)]
  exact ⟨rfl, rfl⟩
theorem isCoord_any (n : Int) (w : World) : Calls Try.prog 34 #[.int .i64 n] w fun e w' => e = .returned (.bool (inB 0 4095 n)) ∧ w = w' := by
  go_enter Try.func34, Try.ntmps34
  go_wp2_with (first | (go_at_call 33; with_reducible refine (within_any _ _ _ _).mono ?_; rintro e w' ⟨rfl, rfl⟩))
  go_ret
  exact ⟨rfl, rfl⟩
set_option maxHeartbeats 1000000 in
theorem joinBoxes_any (a b c d a' b' c' d' : Int) (w : World) : Calls Try.prog 70 #[.agg #[.int .i64 a, .int .i64 b, .int .i64 c, .int .i64 d], .agg #[.int .i64 a', .int .i64 b', .int .i64 c', .int .i64 d']] w fun e w' =>
    e = .returned (.agg #[.int .i64 (min a a'), .int .i64 (min b b'), .int .i64 (max c c'), .int .i64 (max d d')]) ∧ Below w.heap.size w w' := by
  go_enter Try.func70, Try.ntmps70
  go_wp2
  all_goals
    first | rw [show min a a' = a' by omega] | rw [show min a a' = a by omega]
    first | rw [show min b b' = b' by omega] | rw [show min b b' = b by omega]
    first | rw [show max c c' = c' by omega] | rw [show max c c' = c by omega]
    first | rw [show max d d' = d' by omega] | rw [show max d d' = d by omega]
    exact bodyPost_ret (by simp [results, Try.results70, go_sem]) rfl ⟨rfl, (by repeat (first | exact Below.refl _ _ | assumption | refine Below.drew ?_ | refine below_drewN ?_ _ | refine Below.alloc ?_ (by first | omega | (simp <;> omega)) _ | refine Below.setCell ?_ (by first | omega | (simp <;> omega)) _))⟩
set_option maxHeartbeats 1000000 in
theorem l02Join_any (a b c d a' b' c' d' : Int) (w : World) : Calls Try.prog 67 #[.agg #[.int .i64 a, .int .i64 b, .int .i64 c, .int .i64 d], .agg #[.int .i64 a', .int .i64 b', .int .i64 c', .int .i64 d']] w fun e w' =>
    e = .returned (.agg #[.int .i64 (min a a'), .int .i64 (min b b'), .int .i64 (max c c'), .int .i64 (max d d')]) ∧ Below w.heap.size w w' := by
  go_enter Try.func67, Try.ntmps67
  go_wp2_with fail
  go_region_held3 (fun w' => w'.cell? ⟨w.heap.size, 0, none⟩ = some (.int .i64 a) ∧ w'.cell? ⟨w.heap.size, 1, none⟩ = some (.int .i64 b) ∧ w'.cell? ⟨w.heap.size, 2, none⟩ = some (.int .i64 c) ∧ w'.cell? ⟨w.heap.size, 3, none⟩ = some (.int .i64 d) ∧
        w'.cell? ⟨w.heap.size + 1, 0, none⟩ = some (.int .i64 a') ∧ w'.cell? ⟨w.heap.size + 1, 1, none⟩ = some (.int .i64 b') ∧ w'.cell? ⟨w.heap.size + 1, 2, none⟩ = some (.int .i64 c') ∧ w'.cell? ⟨w.heap.size + 1, 3, none⟩ = some (.int .i64 d'))
      (go_keep)
      (first | (go_at_call 82; with_reducible refine (l00Min_any _ _ _).mono ?_; rintro e w7 ⟨rfl, rfl⟩) | (go_at_call 68; with_reducible refine (l00Max_any _ _ _).mono ?_; rintro e w7 ⟨rfl, rfl⟩))
  go_wp2
  exact bodyPost_ret (v := .agg #[.int .i64 (min a a'), .int .i64 (min b b'), .int .i64 (max c c'), .int .i64 (max d d')]) (by simp [results, Try.results67, go_sem]) rfl ⟨rfl, (by repeat (first | exact Below.refl _ _ | assumption | refine Below.drew ?_ | refine below_drewN ?_ _ | refine Below.alloc ?_ (by first | omega | (simp <;> omega)) _ | refine Below.setCell ?_ (by first | omega | (simp <;> omega)) _))⟩
end Go.Proofs.Ytbfilhpgekgmbaa
