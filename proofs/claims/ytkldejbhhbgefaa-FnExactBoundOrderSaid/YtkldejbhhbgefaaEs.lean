/- Elastic of the reference, and the codes of two lists and a band on both sides. -/
import Derived.Test.YtkldejbhhbgefaaEt
namespace Go.Proofs.Ytkldejbhhbgefaa
open Go.ChangeShapes Go.WideShapes Go.ChangeAt Go.RowKit
def elE (xs ys : List T3) (band : Int) : Int := if (featsOk 72 xs && featsOk 72 ys) = true then (if bandOk xs.length ys.length band = true then 0 else 2) else 1
def elR (xs ys : List T3) (band : Int) : Int := if elE xs ys band = 0 then elV xs ys band else 0
theorem elE_bad {xs ys : List T3} {band : Int} (h : (featsOk 72 xs && featsOk 72 ys) = false) : elE xs ys band = 1 := by unfold elE; rw [h, if_neg (by decide)]
theorem elE_off {xs ys : List T3} {band : Int} (h : featsOk 72 xs = true) (h' : featsOk 72 ys = true) (hb : bandOk xs.length ys.length band = false) : elE xs ys band = 2 := by unfold elE; rw [h, h', Bool.and_self, if_pos rfl, hb, if_neg (by decide)]
theorem elE_ok {xs ys : List T3} {band : Int} (h : featsOk 72 xs = true) (h' : featsOk 72 ys = true) (hb : bandOk xs.length ys.length band = true) : elE xs ys band = 0 := by unfold elE; rw [h, h', Bool.and_self, if_pos rfl, hb, if_pos rfl]
theorem elE_inv {xs ys : List T3} {band : Int} (h : elE xs ys band = 0) : featsOk 72 xs = true ∧ featsOk 72 ys = true ∧ bandOk xs.length ys.length band = true := by
  unfold elE at h
  split at h
  · rename_i h1
    split at h
    · rename_i h2; simp only [Bool.and_eq_true] at h1; exact ⟨h1.1, h1.2, h2⟩
    · omega
  · omega
theorem featsOk_bd {m : Int} {xs : List T3} (h : featsOk m xs = true) : xs.all featOk = true ∧ 1 ≤ (xs.length : Int) ∧ (xs.length : Int) ≤ m := by
  obtain ⟨h1, h2⟩ := Bool.and_eq_true_iff.1 h
  exact ⟨h1, inB_iff.1 h2⟩
theorem bandOk_iff {n m : Nat} {band : Int} : bandOk n m band = true ↔ (0 ≤ band ∧ band ≤ 72) ∧ (((n : Int) - m).natAbs : Int) ≤ band := by
  unfold bandOk away; simp only [Bool.and_eq_true, inB_iff, decide_eq_true_eq]
theorem bandOk_no {n m : Nat} {band : Int} (h : inB 0 72 band = false) : bandOk n m band = false := by unfold bandOk; rw [h]; rfl
theorem bandOk_far {n m : Nat} {band : Int} (h : band < (((n : Int) - m).natAbs : Int)) : bandOk n m band = false := by unfold bandOk away; rw [decide_eq_false (by omega), Bool.and_false]
theorem bandOk_yes {n m : Nat} {band : Int} (h : inB 0 72 band = true) (h' : (((n : Int) - m).natAbs : Int) ≤ band) : bandOk n m band = true := bandOk_iff.2 ⟨inB_iff.1 h, h'⟩
set_option maxHeartbeats 1000000 in
theorem l09Least_any (A B : Option Addr) (n ca m cb : Nat) (xs ys : List T3) (band : Int) (w : World) (hr : RdL c3 3 w w.heap.size A n ca xs) (hr' : RdL c3 3 w w.heap.size B m cb ys)
    (ha : featsOk 72 xs = true) (hb : featsOk 72 ys = true) (hw : bandOk n m band = true) :
    Calls Try.prog 111 #[.slice A n ca, .slice B m cb, .int .i64 band] w fun e w' => e = .returned (.int .i64 (elV xs ys band)) ∧ Below w.heap.size w w' := by
  have hl := Lib.hid hr.len
  have hl' := Lib.hid hr'.len
  obtain ⟨a0, a1, a2⟩ := featsOk_bd ha
  obtain ⟨b0, b1, b2⟩ := featsOk_bd hb
  rw [hr.len] at a1 a2
  rw [hr'.len] at b1 b2
  have HV := Lib.hid (elV_of (inf := 1000000000) ha hb (by rw [hr.len, hr'.len]; exact hw) (by omega))
  obtain ⟨⟨w0, w1⟩, w2⟩ := bandOk_iff.1 hw
  clear ha hb hw
  go_enter Try.func111, Try.ntmps111
  go_wp2_with fail
  with_reducible refine (l09Table_any _ _ _ _ _ _ xs ys band _ hr hr' a0 b0 (by omega) (by omega) (by omega) (by omega) w0 w1).mono ?_
  rintro e w1 ⟨rfl, o1, hbw1⟩
  have hpos : 1 ≤ n * m := Nat.mul_le_mul (show 1 ≤ n by omega) (show 1 ≤ m by omega)
  have hlast : (n - 1) * m + (m - 1) = n * m - 1 := by
    rw [Nat.sub_mul, Nat.one_mul]
    have := Nat.mul_le_mul_right m (show 1 ≤ n by omega)
    omega
  have hx := tl_at (tb 1000000000 xs ys band) (m := m) (i := n - 1) (j := m - 1) (q := n * m) (by omega) (by omega)
  have hval : tb 1000000000 xs ys band (n - 1) (m - 1) = elV xs ys band := by have h9 := HV.out; rwa [hl.out, hl'.out] at h9
  rw [hval, hlast] at hx
  have hc := tab_cell (F := tb 1000000000 xs ys band) (m := m) (q := n * m) (p := n * m - 1) (by simpa using o1) (Nat.le_refl _) hx
  have hN : n * m ≤ 5184 := Nat.le_trans (Nat.mul_le_mul (show n ≤ 72 by omega) (show m ≤ 72 by omega)) (by decide)
  clear o1 hx hlast hval
  generalize n * m = N at *
  obtain ⟨p, hp⟩ : ∃ p : Nat, N = p + 1 := ⟨N - 1, by omega⟩
  subst hp
  rw [show p + 1 - 1 = p by omega] at hc
  clear hr hr'
  go_wp2
  go_ret
  exact ⟨rfl, hbw1⟩
theorem isBand_any (band : Int) (n m : Nat) (w : World) (hn : n ≤ 1048576) (hm : m ≤ 1048576) : Calls Try.prog 51 #[.int .i64 band, .int .i64 n, .int .i64 m] w fun e w' => e = .returned (.bool (bandOk n m band)) ∧ w = w' := by
  cases h1 : inB 0 72 band with
  | false =>
    have F := Lib.hid (bandOk_no (n := n) (m := m) h1)
    go_enter Try.func51, Try.ntmps51
    go_wp2_with (first | (go_at_call 40; with_reducible refine (within_any _ _ _ _).mono ?_; rintro e w' ⟨rfl, rfl⟩))
    go_ret
    exact ⟨ret_bool F.out.symm, rfl⟩
  | true =>
    by_cases h2 : (((n : Int) - m).natAbs : Int) ≤ band
    · have F := Lib.hid (bandOk_yes h1 h2)
      go_enter Try.func51, Try.ntmps51
      go_wp2_with (first | (go_at_call 40; with_reducible refine (within_any _ _ _ _).mono ?_; rintro e w' ⟨rfl, rfl⟩) | (go_at_call 85; with_reducible refine (abs_any _ _ (by omega) (by omega)).mono ?_; rintro e w' ⟨rfl, rfl⟩))
      go_ret
      exact ⟨ret_bool (by first | exact F.out.symm | (rw [F.out]; exact decide_eq_false (by omega)) | (rw [F.out]; exact decide_eq_true (by omega))), rfl⟩
    · have h3 : band < (((n : Int) - m).natAbs : Int) := by omega
      have F := Lib.hid (bandOk_far h3)
      clear h2
      go_enter Try.func51, Try.ntmps51
      go_wp2_with (first | (go_at_call 40; with_reducible refine (within_any _ _ _ _).mono ?_; rintro e w' ⟨rfl, rfl⟩) | (go_at_call 85; with_reducible refine (abs_any _ _ (by omega) (by omega)).mono ?_; rintro e w' ⟨rfl, rfl⟩))
      go_ret
      exact ⟨ret_bool (by first | exact F.out.symm | (rw [F.out]; exact decide_eq_false (by omega)) | (rw [F.out]; exact decide_eq_true (by omega))), rfl⟩
end Go.Proofs.Ytkldejbhhbgefaa
