/- Plain law of whole roots: what both sides' searches end at. -/
import Derived.Test.YtbfilhpgekgmbaaSc
namespace Go.Proofs.Ytbfilhpgekgmbaa
open Go.RowKit
/-- The greatest number whose square is at most n. -/
def isq : Nat → Nat
  | 0 => 0
  | n + 1 => if (isq n + 1) * (isq n + 1) ≤ n + 1 then isq n + 1 else isq n
theorem isq_spec (n : Nat) : isq n * isq n ≤ n ∧ n < (isq n + 1) * (isq n + 1) := by
  induction n with
  | zero => exact ⟨Nat.le_refl _, by decide⟩
  | succ n ih =>
    obtain ⟨h1, h2⟩ := ih
    unfold isq
    split
    · rename_i h
      refine ⟨h, ?_⟩
      have h3 : (isq n + 1 + 1) * (isq n + 1 + 1) = (isq n + 1) * (isq n + 1) + (2 * isq n + 3) := by
        rw [Nat.add_mul (isq n + 1) 1, Nat.mul_add (isq n + 1) (isq n + 1) 1]; omega
      rw [h3]; omega
    · rename_i h
      exact ⟨by omega, by omega⟩
def rootV (n : Int) : Int := (isq n.toNat : Int)
theorem rootV_spec {n : Int} (h : 0 ≤ n) : 0 ≤ rootV n ∧ rootV n * rootV n ≤ n ∧ n < (rootV n + 1) * (rootV n + 1) := by
  obtain ⟨h1, h2⟩ := isq_spec n.toNat
  unfold rootV
  have e1 : ((isq n.toNat : Int)) * (isq n.toNat : Int) = ((isq n.toNat * isq n.toNat : Nat) : Int) := by simp
  have e2 : ((isq n.toNat : Int) + 1) * ((isq n.toNat : Int) + 1) = (((isq n.toNat + 1) * (isq n.toNat + 1) : Nat) : Int) := by simp
  rw [e1, e2]
  omega
theorem sq_mono {a b : Int} (h0 : 0 ≤ a) (h : a ≤ b) : a * a ≤ b * b := Int.mul_le_mul h h h0 (by omega)
theorem sq_lt {a b : Int} (h0 : 0 ≤ b) (h : a * a < b * b) : a < b := by
  rcases Int.lt_or_le a b with h1 | h1
  · exact h1
  · exact absurd (sq_mono h0 h1) (by omega)
theorem rootV_uniq {n r : Int} (hn : 0 ≤ n) (h0 : 0 ≤ r) (h1 : r * r ≤ n) (h2 : n < (r + 1) * (r + 1)) : r = rootV n := by
  obtain ⟨k0, k1, k2⟩ := rootV_spec hn
  have a1 := sq_lt (a := r) (b := rootV n + 1) (by omega) (by omega)
  have a2 := sq_lt (a := rootV n) (b := r + 1) (by omega) (by omega)
  omega
theorem rootV_le {n B : Int} (hn : 0 ≤ n) (hB : 0 ≤ B) (h : n < (B + 1) * (B + 1)) : rootV n ≤ B := by
  obtain ⟨k0, k1, k2⟩ := rootV_spec hn
  have := sq_lt (a := rootV n) (b := B + 1) (by omega) (by omega)
  omega
/-- Newton's step from above stays above the root. -/
theorem newton_ge {n r : Int} (hn : 0 ≤ n) (hr : 1 ≤ r) : rootV n ≤ (r + n / r) / 2 := by
  obtain ⟨k0, k1, _⟩ := rootV_spec hn
  have h1 : 2 * rootV n - r ≤ n / r := by
    refine (Int.le_ediv_iff_mul_le (by omega)).2 ?_
    have h2 : 0 ≤ (rootV n - r) * (rootV n - r) := by
      rcases Int.le_total 0 (rootV n - r) with h | h
      · exact Int.mul_nonneg h h
      · exact Int.mul_nonneg_of_nonpos_of_nonpos h h
    have h3 : (rootV n - r) * (rootV n - r) = rootV n * rootV n - (2 * rootV n - r) * r := by
      simp only [Int.sub_mul, Int.mul_sub, Int.mul_comm r (rootV n), Int.two_mul, Int.add_mul]; omega
    omega
  omega
/-- Above the root it goes down. -/
theorem newton_lt {n r : Int} (hn : 0 ≤ n) (hr : rootV n < r) : (r + n / r) / 2 < r := by
  obtain ⟨k0, _, k2⟩ := rootV_spec hn
  have h1 : n < r * r := Int.lt_of_lt_of_le k2 (sq_mono (by omega) (by omega))
  have h2 : n / r < r := Int.ediv_lt_of_lt_mul (by omega) h1
  omega
def sqD (a b : T3) : Int := (a.1 - b.1) * (a.1 - b.1) + (a.2.1 - b.2.1) * (a.2.1 - b.2.1)
theorem sq_bd {d : Int} (h : -4095 ≤ d) (h' : d ≤ 4095) : 0 ≤ d * d ∧ d * d ≤ 16769025 := by
  rcases Int.le_total 0 d with h1 | h1
  · exact ⟨Int.mul_nonneg h1 h1, Int.le_trans (sq_mono h1 h') (by decide)⟩
  · have e : d * d = (-d) * (-d) := by rw [Int.neg_mul_neg]
    rw [e]
    exact ⟨Int.mul_nonneg (by omega) (by omega), Int.le_trans (sq_mono (by omega) (show -d ≤ 4095 by omega)) (by decide)⟩
def lenD (a b : T3) : Int := rootV (256 * sqD a b)
theorem sqD_bd {x y t x' y' t' : Int} (h0 : 0 ≤ x) (h1 : x ≤ 4095) (h2 : 0 ≤ y) (h3 : y ≤ 4095) (k0 : 0 ≤ x') (k1 : x' ≤ 4095) (k2 : 0 ≤ y') (k3 : y' ≤ 4095) : 0 ≤ sqD (x, y, t) (x', y', t') ∧ sqD (x, y, t) (x', y', t') ≤ 33538050 := by
  have a1 := sq_bd (d := x - x') (by omega) (by omega)
  have a2 := sq_bd (d := y - y') (by omega) (by omega)
  unfold sqD
  simp only
  omega
theorem lenD_bd {x y t x' y' t' : Int} (h0 : 0 ≤ x) (h1 : x ≤ 4095) (h2 : 0 ≤ y) (h3 : y ≤ 4095) (k0 : 0 ≤ x') (k1 : x' ≤ 4095) (k2 : 0 ≤ y') (k3 : y' ≤ 4095) : 0 ≤ lenD (x, y, t) (x', y', t') ∧ lenD (x, y, t) (x', y', t') ≤ 92660 := by
  obtain ⟨s0, s1⟩ := sqD_bd (t := t) (t' := t') h0 h1 h2 h3 k0 k1 k2 k3
  unfold lenD
  exact ⟨(rootV_spec (by omega)).1, rootV_le (by omega) (by decide) (by omega)⟩
end Go.Proofs.Ytbfilhpgekgmbaa
