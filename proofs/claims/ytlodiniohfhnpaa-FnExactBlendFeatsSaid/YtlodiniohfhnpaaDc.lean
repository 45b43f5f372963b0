/- Contracts of DirectionCounts. -/
import Derived.Test.YtlodiniohfhnpaaMk
import Derived.Test.YtlodiniohfhnpaaFlInt
namespace Go.Proofs.Ytlodiniohfhnpaa
open Go.ChangeShapes Go.WideShapes Go.ChangeAt Go.RowKit
def dirStep (c : List Int) (f : T3) : List Int := c.set f.2.2.toNat (c.getD f.2.2.toNat 0 + 1)
def dirL (xs : List T3) : List Int := xs.foldl dirStep (List.replicate 8 0)
def dirF (xs : List T3) : List Int := okL (featsOk 384 xs) (dirL xs)
theorem dirL_len (xs : List T3) : (dirL xs).length = 8 := by
  unfold dirL
  have : ∀ (l : List Int), l.length = 8 → (xs.foldl dirStep l).length = 8 := by
    induction xs with
    | nil => intro l h; exact h
    | cons x xs ih => intro l h; exact ih _ (by simp [dirStep, h])
  exact this _ rfl
theorem dirL_step {xs : List T3} {k : Nat} {x y d : Int} (h : xs[k]? = some (x, y, d)) : dirL (xs.take (k + 1)) = dirStep (dirL (xs.take k)) (x, y, d) := fold_step h
theorem dirL_bd : ∀ (xs : List T3) (j : Nat), 0 ≤ (dirL xs).getD j 0 ∧ (dirL xs).getD j 0 ≤ xs.length := by
  intro xs j
  unfold dirL
  have key : ∀ (ys : List T3) (l : List Int) (m : Nat), (∀ j, 0 ≤ l.getD j 0 ∧ l.getD j 0 ≤ m) → ∀ j, 0 ≤ (ys.foldl dirStep l).getD j 0 ∧ (ys.foldl dirStep l).getD j 0 ≤ (m + ys.length : Nat) := by
    intro ys
    induction ys with
    | nil => intro l m h j; simpa using h j
    | cons y ys ih =>
      intro l m h j
      have := ih (dirStep l y) (m + 1) (by
        intro i
        unfold dirStep
        rw [List.getD_eq_getElem?_getD, List.getElem?_set]
        have h1 := h i
        have h2 := h y.2.2.toNat
        split
        · rename_i e; subst e
          split
          · simp only [Option.getD_some]; omega
          · simp; omega
        · rw [← List.getD_eq_getElem?_getD]; omega) j
      simp only [List.foldl_cons, List.length_cons]
      omega
  have := key xs (List.replicate 8 0) 0 (by
    intro j
    rw [List.getD_eq_getElem?_getD, List.getElem?_replicate]
    split <;> simp) j
  omega
theorem flat1 (l : List Int) : l.flatMap c1 = l.map (Value.int .i64) := by
  induction l with
  | nil => rfl
  | cons x l ih => simp [List.flatMap_cons, c1, ih]
theorem own1_cell {w : World} {base g n c : Nat} {e : TypeId} {l : List Int} (h : w.ownsRow base e 1 (.slice (some ⟨g, 0, none⟩) n c) n (l.flatMap c1)) {j : Nat} (hj : j < n) :
    w.cell? ⟨g, j, none⟩ = some (.int .i64 (l.getD j 0)) ∧ w.frozen? ⟨g, j, none⟩ = false := by
  refine ⟨?_, h.frozenAt j⟩
  have hl : l.length = n := by have := h.1; rw [flat_len c1_len] at this; omega
  rw [h.cellAt j (by omega), flat1, List.getElem?_map, List.getElem?_eq_getElem (by omega), List.getD_eq_getElem?_getD, List.getElem?_eq_getElem (by omega)]
  rfl
theorem own1_set {w : World} {base g n c : Nat} {e : TypeId} {l : List Int} (h : w.ownsRow base e 1 (.slice (some ⟨g, 0, none⟩) n c) n (l.flatMap c1)) (j : Nat) (v : Int) :
    (w.setCell ⟨g, j, none⟩ (.int .i64 v)).ownsRow base e 1 (.slice (some ⟨g, 0, none⟩) n c) n ((l.set j v).flatMap c1) := by
  have := (h.stored j (.int .i64 v)).1
  rw [flat1] at this ⊢
  rwa [List.map_set]
end Go.Proofs.Ytlodiniohfhnpaa
