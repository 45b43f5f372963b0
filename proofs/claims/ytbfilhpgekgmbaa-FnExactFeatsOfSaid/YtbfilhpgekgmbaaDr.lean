/- Directions: the program's directionOf, the reference's l05Sector. -/
import Derived.Test.YtbfilhpgekgmbaaSc
import Derived.IntWalk
import Derived.Deep.RegionHeld3
namespace Go.Proofs.Ytbfilhpgekgmbaa
open Go.ChangeShapes Go.WideShapes Go.ChangeAt Go.RowKit
set_option linter.unusedVariables false
set_option linter.unusedSimpArgs false
def dirQ (a b : Nat) : Bool := decide (((a : Int) + b) * ((a : Int) + b) ≤ 2 * (a : Int) * a)
def dirV (dx dy : Int) : Int :=
  if dirQ dx.natAbs dy.natAbs = true then (if 0 < dx then 0 else 4)
  else if dirQ dy.natAbs dx.natAbs = true then (if 0 < dy then 2 else 6)
  else if 0 < dx ∧ 0 < dy then 1 else if 0 < dy then 3 else if dx < 0 then 5 else 7
theorem dir_a {dx dy : Int} (h : dirQ dx.natAbs dy.natAbs = true) : dirV dx dy = if 0 < dx then 0 else 4 := by unfold dirV; rw [if_pos h]
theorem dir_b {dx dy : Int} (h : dirQ dx.natAbs dy.natAbs = false) (h2 : dirQ dy.natAbs dx.natAbs = true) : dirV dx dy = if 0 < dy then 2 else 6 := by unfold dirV; rw [h, if_neg (by simp), if_pos h2]
theorem dir_c {dx dy : Int} (h : dirQ dx.natAbs dy.natAbs = false) (h2 : dirQ dy.natAbs dx.natAbs = false) : dirV dx dy = if 0 < dx ∧ 0 < dy then 1 else if 0 < dy then 3 else if dx < 0 then 5 else 7 := by
  unfold dirV; rw [h, h2, if_neg (by simp), if_neg (by simp)]
theorem dir_zero {dy : Int} (h : dirQ dy.natAbs (0 : Int).natAbs = false) : False := by
  unfold dirQ at h
  simp only [Int.natAbs_zero, decide_eq_false_iff_not] at h
  have h2 : (0 : Int) ≤ (dy.natAbs : Int) * dy.natAbs := Int.mul_nonneg (by omega) (by omega)
  apply h
  rw [Int.mul_assoc]
  simp only [Int.natCast_zero, Int.add_zero]
  omega
theorem dir_bd (dx dy : Int) : 0 ≤ dirV dx dy ∧ dirV dx dy ≤ 7 := by unfold dirV; repeat (first | omega | split)
theorem l05Size_any9 (n : Int) (w : World) (h : -9223372036854775807 ≤ n) (h' : n ≤ 9223372036854775807) : Calls Try.prog 94 #[.int .i64 n] w fun e w' => e = .returned (.int .i64 n.natAbs) ∧ w = w' := by
  go_enter Try.func94, Try.ntmps94
  go_wp2
  all_goals
    go_ret
    exact ⟨ret_int (by have := IntWalk.i64_in (-n) (by omega); first | omega | (rw [this]; omega)), rfl⟩
set_option maxHeartbeats 8000000 in
theorem directionOf_any (dx dy : Int) (w : World) (h0 : -10000 ≤ dx) (h1 : dx ≤ 10000) (h2 : -10000 ≤ dy) (h3 : dy ≤ 10000) : Calls Try.prog 73 #[.int .i64 dx, .int .i64 dy] w fun e w' => e = .returned (.int .i64 (dirV dx dy)) ∧ w = w' := by
  have HV := Lib.hid (Eq.refl (dirV dx dy))
  have HA := Lib.hid (fun (h : dirQ dx.natAbs dy.natAbs = true) => dir_a h)
  have HB := Lib.hid (fun (h : dirQ dx.natAbs dy.natAbs = false) (h2 : dirQ dy.natAbs dx.natAbs = true) => dir_b h h2)
  have HC := Lib.hid (fun (h : dirQ dx.natAbs dy.natAbs = false) (h2 : dirQ dy.natAbs dx.natAbs = false) => dir_c h h2)
  have HZ := Lib.hid (fun (h : dirQ dy.natAbs dx.natAbs = false) (hx : dx = 0) => dir_zero (dy := dy) (by rw [hx] at h; exact h))
  have HQ1 := Lib.hid (show dirQ dx.natAbs dy.natAbs = decide (((dx.natAbs : Int) + dy.natAbs) * ((dx.natAbs : Int) + dy.natAbs) ≤ 2 * (dx.natAbs : Int) * dx.natAbs) from rfl)
  have HQ2 := Lib.hid (show dirQ dy.natAbs dx.natAbs = decide (((dx.natAbs : Int) + dy.natAbs) * ((dx.natAbs : Int) + dy.natAbs) ≤ 2 * (dy.natAbs : Int) * dy.natAbs) from by unfold dirQ; rw [Int.add_comm (dy.natAbs : Int) dx.natAbs])
  have A1 := Lib.hid (fun W => abs_any dx W (by omega) (by omega))
  have A2 := Lib.hid (fun W => abs_any dy W (by omega) (by omega))
  have ha : dx.natAbs ≤ 10000 := by omega
  have hb : dy.natAbs ≤ 10000 := by omega
  generalize dirV dx dy = V at *
  generalize dirQ dx.natAbs dy.natAbs = q1 at *
  generalize dirQ dy.natAbs dx.natAbs = q2 at *
  generalize dx.natAbs = a at *
  generalize dy.natAbs = b at *
  have ba : (a : Int) * a ≤ 100000000 := by have := Nat.mul_le_mul ha ha; omega
  have bb : (b : Int) * b ≤ 100000000 := by have := Nat.mul_le_mul hb hb; omega
  have bc : ((a : Int) + b) * ((a : Int) + b) ≤ 400000000 := by
    have := Nat.mul_le_mul (show a + b ≤ 20000 by omega) (show a + b ≤ 20000 by omega)
    have h9 : (((a + b) * (a + b) : Nat) : Int) = ((a : Int) + b) * ((a : Int) + b) := by push_cast; rfl
    omega
  have na : (0 : Int) ≤ (a : Int) * a := Int.mul_nonneg (by omega) (by omega)
  have nb : (0 : Int) ≤ (b : Int) * b := Int.mul_nonneg (by omega) (by omega)
  have nc : (0 : Int) ≤ ((a : Int) + b) * ((a : Int) + b) := Int.mul_nonneg (by omega) (by omega)
  rw [Int.mul_assoc] at HQ1 HQ2
  obtain ⟨P, hP⟩ : ∃ P, ((a : Int) + b) * ((a : Int) + b) = P := ⟨_, rfl⟩
  obtain ⟨X, hX⟩ : ∃ X, (a : Int) * a = X := ⟨_, rfl⟩
  obtain ⟨Y, hY⟩ : ∃ Y, (b : Int) * b = Y := ⟨_, rfl⟩
  have o1 : IntKind.i64.wrap ((a : Int) + b) = (a : Int) + b := IntWalk.i64_in _ (by omega)
  have o2 : IntKind.i64.wrap (((a : Int) + b) * ((a : Int) + b)) = P := by rw [hP]; exact IntWalk.i64_in _ (by omega)
  have o3 : IntKind.i64.wrap (2 * (a : Int)) = 2 * (a : Int) := IntWalk.i64_in _ (by omega)
  have o4 : IntKind.i64.wrap (2 * (a : Int) * (a : Int)) = 2 * X := by rw [Int.mul_assoc, hX]; exact IntWalk.i64_in _ (by omega)
  have o5 : IntKind.i64.wrap (2 * (b : Int)) = 2 * (b : Int) := IntWalk.i64_in _ (by omega)
  have o6 : IntKind.i64.wrap (2 * (b : Int) * (b : Int)) = 2 * Y := by rw [Int.mul_assoc, hY]; exact IntWalk.i64_in _ (by omega)
  rw [hP, hX] at HQ1
  rw [hP, hY] at HQ2
  clear ba bb bc na nb nc hP hX hY
  by_cases p1 : P ≤ 2 * X
  · have g1 : q1 = true := by rw [HQ1.out]; exact decide_eq_true p1
    by_cases p2 : 0 < dx
    · have HL : Hid (V = 0) := by show _ = _; rw [HA.out g1, if_pos p2]
      go_enter Try.func73, Try.ntmps73
      go_wp2_with (first | (go_at_call 88; (first | with_reducible refine (A1.out _).mono ?_ | with_reducible refine (A2.out _).mono ?_); rintro e w7 ⟨rfl, rfl⟩))
      go_ret
      exact ⟨ret_int HL.out.symm, rfl⟩
    · have HL : Hid (V = 4) := by show _ = _; rw [HA.out g1, if_neg p2]
      go_enter Try.func73, Try.ntmps73
      go_wp2_with (first | (go_at_call 88; (first | with_reducible refine (A1.out _).mono ?_ | with_reducible refine (A2.out _).mono ?_); rintro e w7 ⟨rfl, rfl⟩))
      go_ret
      exact ⟨ret_int HL.out.symm, rfl⟩
  · have g1 : q1 = false := by rw [HQ1.out]; exact decide_eq_false p1
    by_cases p3 : P ≤ 2 * Y
    · have g2 : q2 = true := by rw [HQ2.out]; exact decide_eq_true p3
      by_cases p4 : 0 < dy
      · have HL : Hid (V = 2) := by show _ = _; rw [HB.out g1 g2, if_pos p4]
        go_enter Try.func73, Try.ntmps73
        go_wp2_with (first | (go_at_call 88; (first | with_reducible refine (A1.out _).mono ?_ | with_reducible refine (A2.out _).mono ?_); rintro e w7 ⟨rfl, rfl⟩))
        go_ret
        exact ⟨ret_int HL.out.symm, rfl⟩
      · have HL : Hid (V = 6) := by show _ = _; rw [HB.out g1 g2, if_neg p4]
        go_enter Try.func73, Try.ntmps73
        go_wp2_with (first | (go_at_call 88; (first | with_reducible refine (A1.out _).mono ?_ | with_reducible refine (A2.out _).mono ?_); rintro e w7 ⟨rfl, rfl⟩))
        go_ret
        exact ⟨ret_int HL.out.symm, rfl⟩
    · have g2 : q2 = false := by rw [HQ2.out]; exact decide_eq_false p3
      have hz : ¬ dx = 0 := fun h9 => HZ.out g2 h9
      by_cases p4 : 0 < dy
      · by_cases p2 : 0 < dx
        · have HL : Hid (V = 1) := by show _ = _; rw [HC.out g1 g2, if_pos ⟨p2, p4⟩]
          go_enter Try.func73, Try.ntmps73
          go_wp2_with (first | (go_at_call 88; (first | with_reducible refine (A1.out _).mono ?_ | with_reducible refine (A2.out _).mono ?_); rintro e w7 ⟨rfl, rfl⟩))
          go_ret
          exact ⟨ret_int HL.out.symm, rfl⟩
        · have p5 : dx < 0 := by omega
          have HL : Hid (V = 3) := by show _ = _; rw [HC.out g1 g2, if_neg (fun h => p2 h.1), if_pos p4]
          go_enter Try.func73, Try.ntmps73
          go_wp2_with (first | (go_at_call 88; (first | with_reducible refine (A1.out _).mono ?_ | with_reducible refine (A2.out _).mono ?_); rintro e w7 ⟨rfl, rfl⟩))
          go_ret
          exact ⟨ret_int HL.out.symm, rfl⟩
      · by_cases p5 : dx < 0
        · have p2 : ¬ 0 < dx := by omega
          have HL : Hid (V = 5) := by show _ = _; rw [HC.out g1 g2, if_neg (fun h => p4 h.2), if_neg p4, if_pos p5]
          go_enter Try.func73, Try.ntmps73
          go_wp2_with (first | (go_at_call 88; (first | with_reducible refine (A1.out _).mono ?_ | with_reducible refine (A2.out _).mono ?_); rintro e w7 ⟨rfl, rfl⟩))
          go_ret
          exact ⟨ret_int HL.out.symm, rfl⟩
        · have p2 : 0 < dx := by omega
          have HL : Hid (V = 7) := by show _ = _; rw [HC.out g1 g2, if_neg (fun h => p4 h.2), if_neg p4, if_neg p5]
          go_enter Try.func73, Try.ntmps73
          go_wp2_with (first | (go_at_call 88; (first | with_reducible refine (A1.out _).mono ?_ | with_reducible refine (A2.out _).mono ?_); rintro e w7 ⟨rfl, rfl⟩))
          go_ret
          exact ⟨ret_int HL.out.symm, rfl⟩
set_option maxHeartbeats 8000000 in
theorem l05Sector_any (dx dy : Int) (w : World) (h0 : -10000 ≤ dx) (h1 : dx ≤ 10000) (h2 : -10000 ≤ dy) (h3 : dy ≤ 10000) : Calls Try.prog 84 #[.int .i64 dx, .int .i64 dy] w fun e w' => e = .returned (.int .i64 (dirV dx dy)) ∧ w = w' := by
  have HV := Lib.hid (Eq.refl (dirV dx dy))
  have HA := Lib.hid (fun (h : dirQ dx.natAbs dy.natAbs = true) => dir_a h)
  have HB := Lib.hid (fun (h : dirQ dx.natAbs dy.natAbs = false) (h2 : dirQ dy.natAbs dx.natAbs = true) => dir_b h h2)
  have HC := Lib.hid (fun (h : dirQ dx.natAbs dy.natAbs = false) (h2 : dirQ dy.natAbs dx.natAbs = false) => dir_c h h2)
  have HZ := Lib.hid (fun (h : dirQ dy.natAbs dx.natAbs = false) (hx : dx = 0) => dir_zero (dy := dy) (by rw [hx] at h; exact h))
  have HQ1 := Lib.hid (show dirQ dx.natAbs dy.natAbs = decide (((dx.natAbs : Int) + dy.natAbs) * ((dx.natAbs : Int) + dy.natAbs) ≤ 2 * (dx.natAbs : Int) * dx.natAbs) from rfl)
  have HQ2 := Lib.hid (show dirQ dy.natAbs dx.natAbs = decide (((dx.natAbs : Int) + dy.natAbs) * ((dx.natAbs : Int) + dy.natAbs) ≤ 2 * (dy.natAbs : Int) * dy.natAbs) from by unfold dirQ; rw [Int.add_comm (dy.natAbs : Int) dx.natAbs])
  have A1 := Lib.hid (fun W => l05Size_any9 dx W (by omega) (by omega))
  have A2 := Lib.hid (fun W => l05Size_any9 dy W (by omega) (by omega))
  have ha : dx.natAbs ≤ 10000 := by omega
  have hb : dy.natAbs ≤ 10000 := by omega
  generalize dirV dx dy = V at *
  generalize dirQ dx.natAbs dy.natAbs = q1 at *
  generalize dirQ dy.natAbs dx.natAbs = q2 at *
  generalize dx.natAbs = a at *
  generalize dy.natAbs = b at *
  have ba : (a : Int) * a ≤ 100000000 := by have := Nat.mul_le_mul ha ha; omega
  have bb : (b : Int) * b ≤ 100000000 := by have := Nat.mul_le_mul hb hb; omega
  have bc : ((a : Int) + b) * ((a : Int) + b) ≤ 400000000 := by
    have := Nat.mul_le_mul (show a + b ≤ 20000 by omega) (show a + b ≤ 20000 by omega)
    have h9 : (((a + b) * (a + b) : Nat) : Int) = ((a : Int) + b) * ((a : Int) + b) := by push_cast; rfl
    omega
  have na : (0 : Int) ≤ (a : Int) * a := Int.mul_nonneg (by omega) (by omega)
  have nb : (0 : Int) ≤ (b : Int) * b := Int.mul_nonneg (by omega) (by omega)
  have nc : (0 : Int) ≤ ((a : Int) + b) * ((a : Int) + b) := Int.mul_nonneg (by omega) (by omega)
  rw [Int.mul_assoc] at HQ1 HQ2
  obtain ⟨P, hP⟩ : ∃ P, ((a : Int) + b) * ((a : Int) + b) = P := ⟨_, rfl⟩
  obtain ⟨X, hX⟩ : ∃ X, (a : Int) * a = X := ⟨_, rfl⟩
  obtain ⟨Y, hY⟩ : ∃ Y, (b : Int) * b = Y := ⟨_, rfl⟩
  have o1 : IntKind.i64.wrap ((a : Int) + b) = (a : Int) + b := IntWalk.i64_in _ (by omega)
  have o2 : IntKind.i64.wrap (((a : Int) + b) * ((a : Int) + b)) = P := by rw [hP]; exact IntWalk.i64_in _ (by omega)
  have o3 : IntKind.i64.wrap (2 * (a : Int)) = 2 * (a : Int) := IntWalk.i64_in _ (by omega)
  have o4 : IntKind.i64.wrap (2 * (a : Int) * (a : Int)) = 2 * X := by rw [Int.mul_assoc, hX]; exact IntWalk.i64_in _ (by omega)
  have o5 : IntKind.i64.wrap (2 * (b : Int)) = 2 * (b : Int) := IntWalk.i64_in _ (by omega)
  have o6 : IntKind.i64.wrap (2 * (b : Int) * (b : Int)) = 2 * Y := by rw [Int.mul_assoc, hY]; exact IntWalk.i64_in _ (by omega)
  rw [hP, hX] at HQ1
  rw [hP, hY] at HQ2
  clear ba bb bc na nb nc hP hX hY
  by_cases p1 : P ≤ 2 * X
  · have g1 : q1 = true := by rw [HQ1.out]; exact decide_eq_true p1
    by_cases p2 : 0 < dx
    · have HL : Hid (V = 0) := by show _ = _; rw [HA.out g1, if_pos p2]
      go_enter Try.func84, Try.ntmps84
      go_wp2_with (first | (go_at_call 94; (first | with_reducible refine (A1.out _).mono ?_ | with_reducible refine (A2.out _).mono ?_); rintro e w7 ⟨rfl, rfl⟩))
      go_ret
      exact ⟨ret_int HL.out.symm, rfl⟩
    · have HL : Hid (V = 4) := by show _ = _; rw [HA.out g1, if_neg p2]
      go_enter Try.func84, Try.ntmps84
      go_wp2_with (first | (go_at_call 94; (first | with_reducible refine (A1.out _).mono ?_ | with_reducible refine (A2.out _).mono ?_); rintro e w7 ⟨rfl, rfl⟩))
      go_ret
      exact ⟨ret_int HL.out.symm, rfl⟩
  · have g1 : q1 = false := by rw [HQ1.out]; exact decide_eq_false p1
    by_cases p3 : P ≤ 2 * Y
    · have g2 : q2 = true := by rw [HQ2.out]; exact decide_eq_true p3
      by_cases p4 : 0 < dy
      · have HL : Hid (V = 2) := by show _ = _; rw [HB.out g1 g2, if_pos p4]
        go_enter Try.func84, Try.ntmps84
        go_wp2_with (first | (go_at_call 94; (first | with_reducible refine (A1.out _).mono ?_ | with_reducible refine (A2.out _).mono ?_); rintro e w7 ⟨rfl, rfl⟩))
        go_ret
        exact ⟨ret_int HL.out.symm, rfl⟩
      · have HL : Hid (V = 6) := by show _ = _; rw [HB.out g1 g2, if_neg p4]
        go_enter Try.func84, Try.ntmps84
        go_wp2_with (first | (go_at_call 94; (first | with_reducible refine (A1.out _).mono ?_ | with_reducible refine (A2.out _).mono ?_); rintro e w7 ⟨rfl, rfl⟩))
        go_ret
        exact ⟨ret_int HL.out.symm, rfl⟩
    · have g2 : q2 = false := by rw [HQ2.out]; exact decide_eq_false p3
      have hz : ¬ dx = 0 := fun h9 => HZ.out g2 h9
      by_cases p4 : 0 < dy
      · by_cases p2 : 0 < dx
        · have HL : Hid (V = 1) := by show _ = _; rw [HC.out g1 g2, if_pos ⟨p2, p4⟩]
          go_enter Try.func84, Try.ntmps84
          go_wp2_with (first | (go_at_call 94; (first | with_reducible refine (A1.out _).mono ?_ | with_reducible refine (A2.out _).mono ?_); rintro e w7 ⟨rfl, rfl⟩))
          go_ret
          exact ⟨ret_int HL.out.symm, rfl⟩
        · have p5 : dx < 0 := by omega
          have HL : Hid (V = 3) := by show _ = _; rw [HC.out g1 g2, if_neg (fun h => p2 h.1), if_pos p4]
          go_enter Try.func84, Try.ntmps84
          go_wp2_with (first | (go_at_call 94; (first | with_reducible refine (A1.out _).mono ?_ | with_reducible refine (A2.out _).mono ?_); rintro e w7 ⟨rfl, rfl⟩))
          go_ret
          exact ⟨ret_int HL.out.symm, rfl⟩
      · by_cases p5 : dx < 0
        · have p2 : ¬ 0 < dx := by omega
          have HL : Hid (V = 5) := by show _ = _; rw [HC.out g1 g2, if_neg (fun h => p4 h.2), if_neg p4, if_pos p5]
          go_enter Try.func84, Try.ntmps84
          go_wp2_with (first | (go_at_call 94; (first | with_reducible refine (A1.out _).mono ?_ | with_reducible refine (A2.out _).mono ?_); rintro e w7 ⟨rfl, rfl⟩))
          go_ret
          exact ⟨ret_int HL.out.symm, rfl⟩
        · have p2 : 0 < dx := by omega
          have HL : Hid (V = 7) := by show _ = _; rw [HC.out g1 g2, if_neg (fun h => p4 h.2), if_neg p4, if_neg p5]
          go_enter Try.func84, Try.ntmps84
          go_wp2_with (first | (go_at_call 94; (first | with_reducible refine (A1.out _).mono ?_ | with_reducible refine (A2.out _).mono ?_); rintro e w7 ⟨rfl, rfl⟩))
          go_ret
          exact ⟨ret_int HL.out.symm, rfl⟩
end Go.Proofs.Ytbfilhpgekgmbaa
