/- AddTemplate: the program's and the reference's. -/
import Derived.Test.YtkldejbhhbgefaaCp
namespace Go.Proofs.Ytkldejbhhbgefaa
open Go.ChangeShapes Go.WideShapes Go.ChangeAt Go.RowKit
set_option linter.unusedVariables false
set_option linter.unusedSimpArgs false
def addE (z : Int) (ts : List TV) (x : TV) : Int := if (storeB z ts && tmplB x) = true then (if 40 ≤ ts.length then 5 else 0) else 1
def addZ (z : Int) (ts : List TV) (x : TV) : Int := if addE z ts x = 0 then z else 0
def addL (z : Int) (ts : List TV) (x : TV) : List TV := if addE z ts x = 0 then ts ++ [x] else []
theorem add_bad {z : Int} {ts : List TV} {x : TV} (h : (storeB z ts && tmplB x) = false) : addE z ts x = 1 ∧ addZ z ts x = 0 ∧ addL z ts x = [] := by
  have h1 : addE z ts x = 1 := by unfold addE; rw [h]; rfl
  unfold addZ addL; rw [h1]; exact ⟨rfl, rfl, rfl⟩
theorem add_full {z : Int} {ts : List TV} {x : TV} (h : storeB z ts = true) (h' : tmplB x = true) (hn : 40 ≤ ts.length) : addE z ts x = 5 ∧ addZ z ts x = 0 ∧ addL z ts x = [] := by
  have h1 : addE z ts x = 5 := by unfold addE; rw [h, h']; exact if_pos hn
  unfold addZ addL; rw [h1]; exact ⟨rfl, rfl, rfl⟩
theorem add_ok {z : Int} {ts : List TV} {x : TV} (h : storeB z ts = true) (h' : tmplB x = true) (hn : ¬ 40 ≤ ts.length) : addE z ts x = 0 ∧ addZ z ts x = z ∧ addL z ts x = ts ++ [x] := by
  have h1 : addE z ts x = 0 := by unfold addE; rw [h, h']; exact if_neg hn
  unfold addZ addL; rw [h1]; exact ⟨rfl, rfl, rfl⟩
theorem labS_size {s : ByteArray} (h : labS s = true) : s.size = 1 := by
  rcases Nat.lt_or_ge s.size 2 with h1 | h1
  · rcases Nat.lt_or_ge s.size 1 with h2 | h2
    · rw [labS_no (by omega)] at h; cases h
    · omega
  · rw [labS_no (by omega)] at h; cases h
theorem tmplB_sz {x : TV} (h : tmplB x = true) : szT x ≤ 73 := by
  unfold tmplB at h
  obtain ⟨h1, h2⟩ := Bool.and_eq_true_iff.1 h
  have h3 := labS_size h1
  unfold featsOk at h2
  have h4 := (inB_iff.1 (Bool.and_eq_true_iff.1 h2).2).2
  unfold szT; omega
theorem all_tot {ts : List TV} (h : ts.all tmplB = true) : totT ts ≤ 74 * ts.length := by
  unfold totT
  have h2 : (ts.map szT).sum ≤ 73 * ts.length := by
    induction ts with
    | nil => simp
    | cons a l ih =>
      simp only [List.all_cons, Bool.and_eq_true] at h
      have := ih h.2
      have := tmplB_sz h.1
      simp only [List.map_cons, List.sum_cons, List.length_cons]; omega
  omega
theorem storeB_tot {z : Int} {ts : List TV} (h : storeB z ts = true) : totT ts ≤ 2960 := by
  have h1 := storeB_len h
  unfold storeB at h
  have h2 := all_tot (Bool.and_eq_true_iff.1 h).1
  omega
theorem addL_tot (z : Int) (ts : List TV) (x : TV) : totT (addL z ts x) ≤ 1048576 := by
  by_cases h : (storeB z ts && tmplB x) = true
  · obtain ⟨h1, h2⟩ := Bool.and_eq_true_iff.1 h
    by_cases hn : 40 ≤ ts.length
    · rw [(add_full h1 h2 hn).2.2]; decide
    · rw [(add_ok h1 h2 hn).2.2]
      have h3 := storeB_tot h1
      have h4 := tmplB_sz h2
      unfold totT at h3 ⊢
      simp; omega
  · rw [(add_bad (by simpa using h)).2.2]; decide
end Go.Proofs.Ytkldejbhhbgefaa
