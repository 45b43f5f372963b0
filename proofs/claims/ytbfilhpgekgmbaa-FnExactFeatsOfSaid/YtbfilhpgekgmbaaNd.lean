/- Contracts of the divisions: to the lower integer, to the nearest. -/
import Derived.Test.YtbfilhpgekgmbaaSc
namespace Go.Proofs.Ytbfilhpgekgmbaa
open Go.ChangeShapes Go.WideShapes Go.ChangeAt Go.RowKit
/-- The integer nearest to n / d, the greater one of two, for a positive d. -/
def nearD (n d : Int) : Int := n / d + (if d ≤ 2 * (n % d) then 1 else 0)
theorem nearD_bd {n d : Int} (hn : 0 ≤ n) (hd : 0 < d) : 0 ≤ nearD n d ∧ nearD n d ≤ n + 1 := by
  have h1 : 0 ≤ n / d := Int.ediv_nonneg hn (by omega)
  have h2 : n / d ≤ n := Int.ediv_le_self d hn
  unfold nearD
  split <;> omega
theorem near_two {n d : Int} (hd : 0 < d) : (2 * n + d) / (2 * d) = nearD n d := by
  have hr := Int.emod_nonneg n (show d ≠ 0 by omega)
  have hr2 := Int.emod_lt_of_pos n hd
  have he := Int.mul_ediv_add_emod n d
  have h2 : 2 * n + d = (2 * (n % d) + d) + (n / d) * (2 * d) := by
    have : 2 * n = 2 * (d * (n / d)) + 2 * (n % d) := by omega
    rw [this, Int.mul_comm (n / d) (2 * d), Int.mul_assoc]
    omega
  rw [h2, Int.add_mul_ediv_right _ _ (show 2 * d ≠ 0 by omega)]
  unfold nearD
  split
  · rw [show (2 * (n % d) + d) / (2 * d) = 1 from ?_]
    · omega
    · rw [Int.ediv_eq_iff_of_pos (by omega)]; omega
  · rw [Int.ediv_eq_zero_of_lt (by omega) (by omega)]
    omega
theorem tdiv_neg {n d : Int} (hn : n < 0) (hd : 0 < d) : n / d = if n.tmod d < 0 then n.tdiv d - 1 else n.tdiv d := by
  have h1 := Int.mul_tdiv_add_tmod n d
  have h2 := Int.lt_tmod_of_pos n hd
  have h3 := Int.tmod_lt_of_pos n hd
  have h4 : n.tmod d ≤ 0 := by
    have := Int.tmod_nonneg (a := -n) d (by omega)
    rw [Int.neg_tmod] at this
    omega
  split
  · rw [Int.ediv_eq_iff_of_pos hd, Int.sub_mul, Int.mul_comm (n.tdiv d) d]; omega
  · rw [Int.ediv_eq_iff_of_pos hd, Int.mul_comm (n.tdiv d) d]; omega
theorem tdiv_bd {n d : Int} (hn : n < 0) (hd : 0 < d) : n ≤ n.tdiv d ∧ n.tdiv d ≤ 0 := by
  have h1 : 0 ≤ (-n).tdiv d := Int.tdiv_nonneg (by omega) (by omega)
  have h2 : (-n).tdiv d ≤ -n := Int.tdiv_le_self d (by omega)
  rw [Int.neg_tdiv] at h1 h2
  omega
theorem ediv_bd {n d : Int} (hd : 0 < d) : n - d < n / d * d ∧ n / d * d ≤ n := by
  have h1 := Int.mul_ediv_add_emod n d
  have h2 := Int.emod_nonneg n (show d ≠ 0 by omega)
  have h3 := Int.emod_lt_of_pos n hd
  rw [Int.mul_comm] at h1
  omega
theorem ediv_bd2 {n d : Int} {B : Int} (hB : 0 ≤ B) (hd : 0 < d) (h : -B ≤ n) (h' : n ≤ B) : -B ≤ n / d ∧ n / d ≤ B := by
  refine ⟨?_, Int.ediv_le_of_le_mul hd ?_⟩
  · refine (Int.le_ediv_iff_mul_le hd).2 ?_
    have := Int.mul_le_mul_of_nonneg_left (show (1 : Int) ≤ d by omega) hB
    rw [Int.neg_mul]; omega
  · have := Int.mul_le_mul_of_nonneg_left (show (1 : Int) ≤ d by omega) hB
    omega
theorem floorDiv_any (n d : Int) (w : World) (hn : -2305843009213693952 ≤ n) (hn' : n ≤ 2305843009213693952) (hd : 1 ≤ d) (hd' : d ≤ 2305843009213693952) :
    Calls Try.prog 63 #[.int .i64 n, .int .i64 d] w fun e w' => e = .returned (.int .i64 (n / d)) ∧ w = w' := by
  have h4 : (d == 0) = false := by simp; omega
  by_cases h0 : 0 ≤ n
  · have h1 : 0 ≤ n / d := Int.ediv_nonneg h0 (by omega)
    have h2 : n / d ≤ n := Int.ediv_le_self d h0
    have h3 : 0 ≤ n % d := Int.emod_nonneg _ (by omega)
    go_enter Try.func63, Try.ntmps63
    go_wp2
    go_ret
    exact ⟨rfl, rfl⟩
  · have h5 := Lib.hid (tdiv_neg (n := n) (d := d) (by omega) (by omega))
    have h6 := tdiv_bd (n := n) (d := d) (by omega) (by omega)
    have h7 := h6.1
    have h8 := h6.2
    clear h6
    go_enter Try.func63, Try.ntmps63
    go_wp2
    · go_ret
      exact ⟨ret_int (by rw [h5.out, if_pos ‹_›]), rfl⟩
    · go_ret
      exact ⟨ret_int (by rw [h5.out, if_neg (by omega)]), rfl⟩
theorem nearestDiv_any (n d : Int) (w : World) (hn : -2305843009213693952 ≤ n) (hn' : n ≤ 2305843009213693952) (hd : 1 ≤ d) (hd' : d ≤ 2305843009213693952) :
    Calls Try.prog 37 #[.int .i64 n, .int .i64 d] w fun e w' => e = .returned (.int .i64 (nearD n d)) ∧ w = w' := by
  have hb := ediv_bd (n := n) (d := d) (by omega)
  have hb2 := ediv_bd2 (n := n) (d := d) (B := 2305843009213693952) (by omega) (by omega) hn hn'
  have h1 := hb.1
  have h2 := hb.2
  have h3 := hb2.1
  have h4 := hb2.2
  have hm := Lib.hid (Int.mul_ediv_add_emod n d)
  clear hb hb2
  go_enter Try.func37, Try.ntmps37
  go_wp2_with fail
  with_reducible refine (floorDiv_any n d w hn hn' hd hd').mono ?_
  rintro e w' ⟨rfl, rfl⟩
  go_wp2
  all_goals
    go_ret
    have hm' := hm.out
    rw [Int.mul_comm] at hm'
    exact ⟨ret_int (by unfold nearD; split <;> omega), rfl⟩
theorem l05Down_any (n d : Int) (w : World) (hn : -6917529027641081856 ≤ n) (hn' : n ≤ 6917529027641081856) (hd : 1 ≤ d) (hd' : d ≤ 4611686018427387904) :
    Calls Try.prog 58 #[.int .i64 n, .int .i64 d] w fun e w' => e = .returned (.int .i64 (n / d)) ∧ w = w' := by
  have h4 : (d == 0) = false := by simp; omega
  by_cases h0 : 0 ≤ n
  · have h1 : 0 ≤ n / d := Int.ediv_nonneg h0 (by omega)
    have h2 : n / d ≤ n := Int.ediv_le_self d h0
    have h3 : 0 ≤ n % d := Int.emod_nonneg _ (by omega)
    go_enter Try.func58, Try.ntmps58
    go_wp2
    go_ret
    exact ⟨rfl, rfl⟩
  · have h5 := Lib.hid (tdiv_neg (n := n) (d := d) (by omega) (by omega))
    have h6 := tdiv_bd (n := n) (d := d) (by omega) (by omega)
    have h7 := h6.1
    have h8 := h6.2
    clear h6
    go_enter Try.func58, Try.ntmps58
    go_wp2
    · go_ret
      exact ⟨ret_int (by rw [h5.out, if_pos ‹_›]), rfl⟩
    · go_ret
      exact ⟨ret_int (by rw [h5.out, if_neg (by omega)]), rfl⟩
theorem l05Near_any (n d : Int) (w : World) (hn : -2305843009213693952 ≤ n) (hn' : n ≤ 2305843009213693952) (hd : 1 ≤ d) (hd' : d ≤ 2305843009213693952) :
    Calls Try.prog 30 #[.int .i64 n, .int .i64 d] w fun e w' => e = .returned (.int .i64 (nearD n d)) ∧ w = w' := by
  go_enter Try.func30, Try.ntmps30
  go_wp2_with fail
  with_reducible refine (l05Down_any _ _ _ (by omega) (by omega) (by omega) (by omega)).mono ?_
  rintro e w' ⟨rfl, rfl⟩
  go_wp2
  go_ret
  exact ⟨ret_int (near_two (by omega)), rfl⟩
end Go.Proofs.Ytbfilhpgekgmbaa
