/- Plain law of envelopes: least and greatest coordinates of the places within a band. -/
import Derived.Test.YtkldejbhhbgefaaOu
namespace Go.Proofs.Ytkldejbhhbgefaa
open Go.RowKit
def pX (f : T3) : Int := f.1
def pY (f : T3) : Int := f.2.1
/-- The least, the greatest among k elements from a on. -/
def mnW (g : T3 → Int) (xs : List T3) (a : Nat) : Nat → Int
  | 0 => 255
  | k + 1 => min (mnW g xs a k) (g (xs.getD (a + k) (0, 0, 0)))
def mxW (g : T3 → Int) (xs : List T3) (a : Nat) : Nat → Int
  | 0 => 0
  | k + 1 => max (mxW g xs a k) (g (xs.getD (a + k) (0, 0, 0)))
theorem mnW_step {g : T3 → Int} {xs : List T3} {a k j : Nat} {x : T3} (hj : a + k = j) (h : xs[j]? = some x) : mnW g xs a (k + 1) = min (mnW g xs a k) (g x) := by rw [mnW, hj, getD_of h]
theorem mxW_step {g : T3 → Int} {xs : List T3} {a k j : Nat} {x : T3} (hj : a + k = j) (h : xs[j]? = some x) : mxW g xs a (k + 1) = max (mxW g xs a k) (g x) := by rw [mxW, hj, getD_of h]
theorem mnW_one {g : T3 → Int} {xs : List T3} {a : Nat} {x : T3} (h : xs[a]? = some x) (hb : g x ≤ 255) : mnW g xs a 1 = g x := by rw [mnW_step (k := 0) rfl h]; show min (255 : Int) (g x) = g x; omega
theorem mxW_one {g : T3 → Int} {xs : List T3} {a : Nat} {x : T3} (h : xs[a]? = some x) (hb : 0 ≤ g x) : mxW g xs a 1 = g x := by rw [mxW_step (k := 0) rfl h]; show max (0 : Int) (g x) = g x; omega
theorem mn_next {g : T3 → Int} {xs : List T3} {a j : Nat} {x : T3} (h : xs[a + j]? = some x) (hb : g x ≤ 255) : mnW g xs a (max (j + 1) 1) = if g x < mnW g xs a (max j 1) then g x else mnW g xs a (max j 1) := by
  rw [show max (j + 1) 1 = j + 1 by omega, mnW_step rfl h]
  rcases Nat.eq_zero_or_pos j with rfl | hj
  · rw [show max 0 1 = 0 + 1 by omega, mnW_step rfl h]; show min (255 : Int) (g x) = if g x < min 255 (g x) then g x else min 255 (g x); split <;> omega
  · rw [show max j 1 = j by omega]; split <;> omega
theorem mx_next {g : T3 → Int} {xs : List T3} {a j : Nat} {x : T3} (h : xs[a + j]? = some x) (hb : 0 ≤ g x) : mxW g xs a (max (j + 1) 1) = if mxW g xs a (max j 1) < g x then g x else mxW g xs a (max j 1) := by
  rw [show max (j + 1) 1 = j + 1 by omega, mxW_step rfl h]
  rcases Nat.eq_zero_or_pos j with rfl | hj
  · rw [show max 0 1 = 0 + 1 by omega, mxW_step rfl h]; show max (0 : Int) (g x) = if max 0 (g x) < g x then g x else max 0 (g x); split <;> omega
  · rw [show max j 1 = j by omega]; split <;> omega
/-- The window of place i: its first element, and how many it has. -/
def wFrom (bd i : Nat) : Nat := i - bd
def wMany (m bd i : Nat) : Nat := min m (i + bd + 1) - (i - bd)
def mnL (g : T3 → Int) (xs : List T3) (bd n : Nat) : List Int := (List.range n).map fun i => mnW g xs (i - bd) (wMany xs.length bd i)
def mxL (g : T3 → Int) (xs : List T3) (bd n : Nat) : List Int := (List.range n).map fun i => mxW g xs (i - bd) (wMany xs.length bd i)
theorem mnL_len (g : T3 → Int) (xs : List T3) (bd n : Nat) : (mnL g xs bd n).length = n := by simp [mnL]
theorem mxL_len (g : T3 → Int) (xs : List T3) (bd n : Nat) : (mxL g xs bd n).length = n := by simp [mxL]
theorem mnL_step (g : T3 → Int) (xs : List T3) (bd n : Nat) : mnL g xs bd (n + 1) = mnL g xs bd n ++ [mnW g xs (n - bd) (wMany xs.length bd n)] := by simp [mnL, List.range_succ]
theorem mxL_step (g : T3 → Int) (xs : List T3) (bd n : Nat) : mxL g xs bd (n + 1) = mxL g xs bd n ++ [mxW g xs (n - bd) (wMany xs.length bd n)] := by simp [mxL, List.range_succ]
theorem mnW_bd {g : T3 → Int} {xs : List T3} {a : Nat} (hg : ∀ x ∈ xs, 0 ≤ g x ∧ g x ≤ 255) : ∀ {k : Nat}, a + k ≤ xs.length → 0 ≤ mnW g xs a k ∧ mnW g xs a k ≤ 255
  | 0, _ => by simp [mnW]
  | k + 1, h => by
    obtain ⟨h0, h1⟩ := mnW_bd hg (show a + k ≤ xs.length by omega)
    have hx : xs[a + k]? = some (xs[a + k]'(by omega)) := List.getElem?_eq_getElem (by omega)
    have := hg _ (List.mem_of_getElem? hx)
    rw [mnW_step rfl hx]; omega
theorem mxW_bd {g : T3 → Int} {xs : List T3} {a : Nat} (hg : ∀ x ∈ xs, 0 ≤ g x ∧ g x ≤ 255) : ∀ {k : Nat}, a + k ≤ xs.length → 0 ≤ mxW g xs a k ∧ mxW g xs a k ≤ 255
  | 0, _ => by simp [mxW]
  | k + 1, h => by
    obtain ⟨h0, h1⟩ := mxW_bd hg (show a + k ≤ xs.length by omega)
    have hx : xs[a + k]? = some (xs[a + k]'(by omega)) := List.getElem?_eq_getElem (by omega)
    have := hg _ (List.mem_of_getElem? hx)
    rw [mxW_step rfl hx]; omega
/-- An element of the window is at least the least, at most the greatest. -/
theorem mnW_le {g : T3 → Int} {xs : List T3} {a : Nat} : ∀ {k j : Nat}, j < k → mnW g xs a k ≤ g (xs.getD (a + j) (0, 0, 0))
  | k + 1, j, h => by
    rw [mnW]
    by_cases e : j = k
    · subst e; omega
    · have := mnW_le (g := g) (xs := xs) (a := a) (show j < k by omega); omega
theorem mxW_ge {g : T3 → Int} {xs : List T3} {a : Nat} : ∀ {k j : Nat}, j < k → g (xs.getD (a + j) (0, 0, 0)) ≤ mxW g xs a k
  | k + 1, j, h => by
    rw [mxW]
    by_cases e : j = k
    · subst e; omega
    · have := mxW_ge (g := g) (xs := xs) (a := a) (show j < k by omega); omega
theorem win_ok {n m bd i : Nat} (hi : i < n) (hm : 1 ≤ m) (h : n ≤ m + bd) : i - bd < m ∧ 1 ≤ wMany m bd i ∧ i - bd + wMany m bd i ≤ m ∧ i - bd + wMany m bd i = min m (i + bd + 1) := by unfold wMany; omega
theorem vlB_of {g : T3 → Int} {xs : List T3} {bd n : Nat} (hg : ∀ x ∈ xs, 0 ≤ g x ∧ g x ≤ 255) (hm : 1 ≤ xs.length) (h : n ≤ xs.length + bd) : vlB (mnL g xs bd n) (mxL g xs bd n) = true := by
  unfold vlB
  rw [mnL_len]
  refine List.all_eq_true.2 (fun i hi => ?_)
  have hin : i < n := by simpa using hi
  obtain ⟨w1, w2, w3, w4⟩ := win_ok hin hm h
  have e1 : (mnL g xs bd n)[i]? = some (mnW g xs (i - bd) (wMany xs.length bd i)) := by simp [mnL, hin]
  have e2 : (mxL g xs bd n)[i]? = some (mxW g xs (i - bd) (wMany xs.length bd i)) := by simp [mxL, hin]
  rw [getD_of e1, getD_of e2]
  have b1 := mnW_bd hg w3
  have b2 := mxW_bd hg w3
  have b3 := mnW_le (g := g) (xs := xs) (a := i - bd) (show 0 < wMany xs.length bd i by omega)
  have b4 := mxW_ge (g := g) (xs := xs) (a := i - bd) (show 0 < wMany xs.length bd i by omega)
  unfold lmOk
  simp only [Bool.and_eq_true, inB_iff, decide_eq_true_eq]
  omega
end Go.Proofs.Ytkldejbhhbgefaa
