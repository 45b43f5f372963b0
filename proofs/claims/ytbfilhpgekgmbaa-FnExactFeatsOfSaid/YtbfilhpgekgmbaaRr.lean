/- Contracts of whole roots and of the lengths of segments. -/
import Derived.Test.YtbfilhpgekgmbaaRt
import Derived.Test.YtbfilhpgekgmbaaSk
import Derived.Test.YtbfilhpgekgmbaaSh
import Derived.Lib.ItoaNum
import Derived.IntWalk
namespace Go.Proofs.Ytbfilhpgekgmbaa
open Go.ChangeShapes Go.WideShapes Go.ChangeAt Go.RowKit
set_option maxHeartbeats 1000000 in
theorem l05Root_any (n : Int) (w : World) (h0 : 0 ≤ n) (h1 : n ≤ 1000000000000000) : Calls Try.prog 114 #[.int .i64 n] w fun e w' => e = .returned (.int .i64 (rootV n)) ∧ w = w' := by
  go_enter Try.func114, Try.ntmps114
  go_wp2
  go_loop [3, 4, 5] (fun lo hi _ => ∃ a b : Int, lo = .int .i64 a ∧ hi = .int .i64 b ∧ 0 ≤ a ∧ a ≤ b ∧ b ≤ 40000000 ∧ Hid (a * a ≤ n ∧ n < (b + 1) * (b + 1))) (fun lo hi _ => (intOf hi - intOf lo).toNat)
  case atStart => exact ⟨0, 40000000, rfl, rfl, by omega, by omega, by omega, by omega, by omega⟩
  case round =>
    obtain ⟨a, b, rfl, rfl, a0, ab, b1, HH⟩ := hrel
    by_cases hlt : a < b
    · obtain ⟨m, hm⟩ : ∃ m, (a + b + 1) / 2 = m := ⟨_, rfl⟩
      have m0 : a < m := by omega
      have m1 : m ≤ b := by omega
      obtain ⟨q, hq⟩ : ∃ q, m * m = q := ⟨_, rfl⟩
      have q0 : 0 ≤ q := by rw [← hq]; exact Int.mul_nonneg (by omega) (by omega)
      have q1 : q ≤ 1600000000000000 := by rw [← hq]; exact Int.le_trans (sq_mono (by omega) (show m ≤ 40000000 by omega)) (by decide)
      by_cases hle : q ≤ n
      · go_wp2
        have HQ : m * m ≤ n := by rw [hq]; exact hle
        exact ⟨⟨m, b, by first | rfl | rw [hm], rfl, by omega, by omega, by omega, HQ, HH.out.2⟩, by simp [intOf]; omega⟩
      · have hle' : n < q := by omega
        go_wp2
        have HQ : n < (m - 1 + 1) * (m - 1 + 1) := by rw [show m - 1 + 1 = m by omega, hq]; exact hle'
        exact ⟨⟨a, m - 1, rfl, by first | rfl | rw [hm], by omega, by omega, by omega, HH.out.1, HQ⟩, by simp [intOf]; omega⟩
    · have hab : a = b := by omega
      have HR : Hid (a = rootV n) := rootV_uniq h0 a0 HH.out.1 (by rw [hab]; exact HH.out.2)
      clear hab
      go_wp2
      go_ret
      exact ⟨ret_int HR.out, rfl⟩
theorem r0_bd {n : Nat} (h0 : n ≠ 0) (h1 : n ≤ 1000000000000000) : 1 ≤ Lib.bitLen n ∧ Lib.bitLen n ≤ 50 ∧ isq n < 2 ^ ((Lib.bitLen n + 1) / 2) := by
  obtain ⟨b1, b2, b3⟩ := Lib.bitLenAux_bounds 64 n (by omega) h0
  have hL : Lib.bitLenAux 64 n = Lib.bitLen n := rfl
  rw [hL] at b1 b2 b3
  refine ⟨b1, ?_, ?_⟩
  · apply Classical.byContradiction
    intro hc
    have : 2 ^ 50 ≤ 2 ^ (Lib.bitLen n - 1) := Nat.pow_le_pow_right (by decide) (by omega)
    omega
  · obtain ⟨s1, s2⟩ := isq_spec n
    apply Classical.byContradiction
    intro hc
    have hc' : 2 ^ ((Lib.bitLen n + 1) / 2) ≤ isq n := by omega
    have h3 := Nat.mul_le_mul hc' hc'
    rw [← Nat.pow_add] at h3
    have h4 : 2 ^ Lib.bitLen n ≤ 2 ^ ((Lib.bitLen n + 1) / 2 + (Lib.bitLen n + 1) / 2) := Nat.pow_le_pow_right (by decide) (by omega)
    omega
set_option maxHeartbeats 1000000 in
theorem rootOf_any (n : Int) (w : World) (h0 : 0 ≤ n) (h1 : n ≤ 1000000000000000) : Calls Try.prog 101 #[.int .i64 n] w fun e w' => e = .returned (.int .i64 (rootV n)) ∧ w = w' := by
  by_cases hz : n = 0
  · subst hz
    go_enter Try.func101, Try.ntmps101
    go_wp2
    go_ret
    exact ⟨rfl, rfl⟩
  · have hz' : (n == 0) = false := by simpa using hz
    obtain ⟨L1, L2, L3⟩ := r0_bd (n := n.toNat) (by omega) (by omega)
    go_enter Try.func101, Try.ntmps101
    go_wp2_with fail
    refine (Try.bits_Len64 n _ (by omega) (by omega)).mono ?_
    rintro e w' ⟨rfl, rfl⟩
    generalize Lib.bitLen n.toNat = L at *
    have l1 : (1 : Int) ≤ (L : Int) := by omega
    have l2 : (L : Int) ≤ 50 := by omega
    have hp : (2 : Int) ^ ((L + 1) / 2) = ((2 ^ ((L + 1) / 2) : Nat) : Int) := by simp
    have hp2 : 2 ^ ((L + 1) / 2) ≤ 2 ^ 25 := Nat.pow_le_pow_right (by decide) (by omega)
    have hp1 : 0 < 2 ^ ((L + 1) / 2) := Nat.pow_pos (by decide)
    have hW : wrap64 ((2 : Int) ^ ((L + 1) / 2)) = ((2 ^ ((L + 1) / 2) : Nat) : Int) := by rw [hp]; exact IntWalk.wrap64_in _ ⟨by omega, by omega⟩
    have hroot : rootV n ≤ ((2 ^ ((L + 1) / 2) : Nat) : Int) := by unfold rootV; omega
    clear hp L3
    obtain ⟨r0, hr0⟩ : ∃ r0 : Int, ((2 ^ ((L + 1) / 2) : Nat) : Int) = r0 := ⟨_, rfl⟩
    have r1 : 1 ≤ r0 := by omega
    have r2 : r0 ≤ 33554432 := by omega
    rw [hr0] at hW hroot
    clear hr0 hp1 hp2
    have HROOT := Lib.hid hroot
    clear hroot
    have dv : ∀ r : Int, 1 ≤ r → 0 ≤ n / r ∧ n / r ≤ 1000000000000000 := fun r hr => ⟨Int.ediv_nonneg h0 (by omega), Int.le_trans (Int.ediv_le_self _ h0) h1⟩
    have DV := Lib.hid dv
    clear dv
    obtain ⟨d0, d1⟩ := DV.out r0 r1
    go_wp2
    clear d0 d1
    go_loop [3, 4] (fun p q => ∃ r nx : Int, p = .int .i64 r ∧ q = .int .i64 nx ∧ 1 ≤ r ∧ r ≤ 33554432 ∧ Hid (nx = (r + n / r) / 2 ∧ rootV n ≤ r)) (fun p _ => (intOf p).toNat)
    case atStart => exact ⟨r0, (r0 + n / r0) / 2, by rw [hW], by first | rfl | rw [hW], r1, r2, rfl, HROOT.out⟩
    case round =>
      obtain ⟨r, nx, rfl, rfl, a1, a2, HH⟩ := hrel
      clear r1 r2 hW
      by_cases hlt : nx < r
      · have n1 : 1 ≤ nx := by
          have h3 := newton_ge (r := r) h0 a1
          obtain ⟨k0, k1, k2⟩ := rootV_spec h0
          have h4 := HH.out.1
          have h5 : 1 ≤ rootV n := by
            apply Classical.byContradiction
            intro hc
            have e0 : rootV n = 0 := by omega
            rw [e0] at k2
            omega
          omega
        have HN : Hid (rootV n ≤ nx) := by have h3 := newton_ge (r := r) h0 a1; rw [HH.out.1]; exact h3
        obtain ⟨d0, d1⟩ := DV.out nx n1
        go_wp2
        exact ⟨⟨nx, _, rfl, rfl, n1, by omega, rfl, HN.out⟩, by simp [intOf]; omega⟩
      · have HR : Hid (r = rootV n) := by
          apply Classical.byContradiction
          intro hc
          have hc' : ¬ r = rootV n := hc
          have h3 := newton_lt (r := r) h0 (by have := HH.out.2; omega)
          have h4 := HH.out.1
          rw [← h4] at h3
          exact hlt h3
        go_wp2
        go_ret
        exact ⟨ret_int HR.out, rfl⟩
set_option maxHeartbeats 1000000 in
theorem squared_any (x y t x' y' t' : Int) (w : World) (h : ptOk (x, y, t) = true) (h' : ptOk (x', y', t') = true) :
    Calls Try.prog 102 #[.agg #[.int .i64 x, .int .i64 y, .int .i64 t], .agg #[.int .i64 x', .int .i64 y', .int .i64 t']] w fun e w' => e = .returned (.int .i64 (sqD (x, y, t) (x', y', t'))) ∧ Below w.heap.size w w' := by
  obtain ⟨⟨x0, x1⟩, ⟨y0, y1⟩, t0, t1⟩ := ptOk_iff.1 h
  obtain ⟨⟨x0', x1'⟩, ⟨y0', y1'⟩, t0', t1'⟩ := ptOk_iff.1 h'
  clear h h'
  have a1 := sq_bd (d := x - x') (by omega) (by omega)
  have a2 := sq_bd (d := y - y') (by omega) (by omega)
  obtain ⟨p, hp⟩ : ∃ p, (x - x') * (x - x') = p := ⟨_, rfl⟩
  obtain ⟨q, hq⟩ : ∃ q, (y - y') * (y - y') = q := ⟨_, rfl⟩
  rw [hp] at a1
  rw [hq] at a2
  obtain ⟨p0, p1⟩ := a1
  obtain ⟨q0, q1⟩ := a2
  have HS : Hid (sqD (x, y, t) (x', y', t') = p + q) := by unfold Hid sqD; simp only; rw [hp, hq]
  go_enter Try.func102, Try.ntmps102
  go_wp2
  go_ret
  exact ⟨ret_int HS.out.symm, (by repeat (first | exact Below.refl _ _ | assumption | refine Below.drew ?_ | refine below_drewN ?_ _ | refine Below.alloc ?_ (by first | omega | (simp <;> omega)) _ | refine Below.setCell ?_ (by first | omega | (simp <;> omega)) _))⟩
set_option maxHeartbeats 1000000 in
theorem l05Far_any (x y t x' y' t' : Int) (w : World) (h : ptOk (x, y, t) = true) (h' : ptOk (x', y', t') = true) :
    Calls Try.prog 115 #[.agg #[.int .i64 x, .int .i64 y, .int .i64 t], .agg #[.int .i64 x', .int .i64 y', .int .i64 t']] w fun e w' => e = .returned (.int .i64 (sqD (x, y, t) (x', y', t'))) ∧ Below w.heap.size w w' := by
  obtain ⟨⟨x0, x1⟩, ⟨y0, y1⟩, t0, t1⟩ := ptOk_iff.1 h
  obtain ⟨⟨x0', x1'⟩, ⟨y0', y1'⟩, t0', t1'⟩ := ptOk_iff.1 h'
  clear h h'
  have a1 := sq_bd (d := x - x') (by omega) (by omega)
  have a2 := sq_bd (d := y - y') (by omega) (by omega)
  obtain ⟨p, hp⟩ : ∃ p, (x - x') * (x - x') = p := ⟨_, rfl⟩
  obtain ⟨q, hq⟩ : ∃ q, (y - y') * (y - y') = q := ⟨_, rfl⟩
  rw [hp] at a1
  rw [hq] at a2
  obtain ⟨p0, p1⟩ := a1
  obtain ⟨q0, q1⟩ := a2
  have HS : Hid (sqD (x, y, t) (x', y', t') = p + q) := by unfold Hid sqD; simp only; rw [hp, hq]
  go_enter Try.func115, Try.ntmps115
  go_wp2
  go_ret
  exact ⟨ret_int HS.out.symm, (by repeat (first | exact Below.refl _ _ | assumption | refine Below.drew ?_ | refine below_drewN ?_ _ | refine Below.alloc ?_ (by first | omega | (simp <;> omega)) _ | refine Below.setCell ?_ (by first | omega | (simp <;> omega)) _))⟩
set_option maxHeartbeats 1000000 in
theorem lengthOf_any (x y t x' y' t' : Int) (w : World) (h : ptOk (x, y, t) = true) (h' : ptOk (x', y', t') = true) :
    Calls Try.prog 95 #[.agg #[.int .i64 x, .int .i64 y, .int .i64 t], .agg #[.int .i64 x', .int .i64 y', .int .i64 t']] w fun e w' => e = .returned (.int .i64 (lenD (x, y, t) (x', y', t'))) ∧ Below w.heap.size w w' := by
  obtain ⟨⟨x0, x1⟩, ⟨y0, y1⟩, t0, t1⟩ := ptOk_iff.1 h
  obtain ⟨⟨x0', x1'⟩, ⟨y0', y1'⟩, t0', t1'⟩ := ptOk_iff.1 h'
  obtain ⟨s0, s1⟩ := sqD_bd (t := t) (t' := t') x0 x1 y0 y1 x0' x1' y0' y1'
  have H := Lib.hid h
  have H' := Lib.hid h'
  clear h h'
  have hb0 : Below w.heap.size w ((w.alloc (.cells #[.int .i64 x, .int .i64 y, .int .i64 t] 54)).alloc (.cells #[.int .i64 x', .int .i64 y', .int .i64 t'] 54)) := (by repeat (first | exact Below.refl _ _ | assumption | refine Below.drew ?_ | refine below_drewN ?_ _ | refine Below.alloc ?_ (by first | omega | (simp <;> omega)) _ | refine Below.setCell ?_ (by first | omega | (simp <;> omega)) _))
  go_enter Try.func95, Try.ntmps95
  go_wp2_with fail
  with_reducible refine (squared_any x y t x' y' t' _ H.out H'.out).mono ?_
  rintro e w1 ⟨rfl, hbw1⟩
  have HL : Hid (lenD (x, y, t) (x', y', t') = rootV (256 * sqD (x, y, t) (x', y', t'))) := rfl
  generalize sqD (x, y, t) (x', y', t') = s at *
  go_wp2_with fail
  with_reducible refine (rootOf_any (256 * s) _ (by omega) (by omega)).mono ?_
  rintro e w' ⟨rfl, rfl⟩
  go_wp2
  go_ret
  exact ⟨ret_int HL.out.symm, below_on hbw1 hb0⟩
set_option maxHeartbeats 1000000 in
theorem l05Length_any (x y t x' y' t' : Int) (w : World) (h : ptOk (x, y, t) = true) (h' : ptOk (x', y', t') = true) :
    Calls Try.prog 99 #[.agg #[.int .i64 x, .int .i64 y, .int .i64 t], .agg #[.int .i64 x', .int .i64 y', .int .i64 t']] w fun e w' => e = .returned (.int .i64 (lenD (x, y, t) (x', y', t'))) ∧ Below w.heap.size w w' := by
  obtain ⟨⟨x0, x1⟩, ⟨y0, y1⟩, t0, t1⟩ := ptOk_iff.1 h
  obtain ⟨⟨x0', x1'⟩, ⟨y0', y1'⟩, t0', t1'⟩ := ptOk_iff.1 h'
  obtain ⟨s0, s1⟩ := sqD_bd (t := t) (t' := t') x0 x1 y0 y1 x0' x1' y0' y1'
  have H := Lib.hid h
  have H' := Lib.hid h'
  clear h h'
  have hb0 : Below w.heap.size w ((w.alloc (.cells #[.int .i64 x, .int .i64 y, .int .i64 t] 54)).alloc (.cells #[.int .i64 x', .int .i64 y', .int .i64 t'] 54)) := (by repeat (first | exact Below.refl _ _ | assumption | refine Below.drew ?_ | refine below_drewN ?_ _ | refine Below.alloc ?_ (by first | omega | (simp <;> omega)) _ | refine Below.setCell ?_ (by first | omega | (simp <;> omega)) _))
  go_enter Try.func99, Try.ntmps99
  go_wp2_with fail
  with_reducible refine (l05Far_any x y t x' y' t' _ H.out H'.out).mono ?_
  rintro e w1 ⟨rfl, hbw1⟩
  have HL : Hid (lenD (x, y, t) (x', y', t') = rootV (256 * sqD (x, y, t) (x', y', t'))) := rfl
  generalize sqD (x, y, t) (x', y', t') = s at *
  go_wp2_with fail
  with_reducible refine (l05Root_any (256 * s) _ (by omega) (by omega)).mono ?_
  rintro e w' ⟨rfl, rfl⟩
  go_wp2
  go_ret
  exact ⟨ret_int HL.out.symm, below_on hbw1 hb0⟩
end Go.Proofs.Ytbfilhpgekgmbaa
