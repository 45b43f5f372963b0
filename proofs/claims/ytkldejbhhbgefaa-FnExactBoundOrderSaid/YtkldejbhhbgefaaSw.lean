/- Plain law: swaps in rows, ranges swapped, bubbles. -/
import Derived.Test.YtkldejbhhbgefaaSy
namespace Go.Proofs.Ytkldejbhhbgefaa
set_option linter.unusedVariables false
section
variable {α : Type}
theorem get_cat {P T : List α} {x : α} {i : Nat} (h : P.length = i) : (P ++ x :: T)[i]? = some x := by subst h; simp
theorem get_cat2 {P Q T : List α} {x y : α} {i j : Nat} (h : P.length = i) (h2 : i + 1 + Q.length = j) : (P ++ x :: (Q ++ y :: T))[j]? = some y := by
  rw [List.getElem?_append_right (by omega), show j - P.length = Q.length + 1 by omega, List.getElem?_cons_succ]; simp
theorem set_cat {P T : List α} {x y : α} {i : Nat} (h : P.length = i) : (P ++ x :: T).set i y = P ++ y :: T := by
  rw [List.set_append_right _ _ (by omega), show i - P.length = 0 by omega, List.set_cons_zero]
theorem swap_cat {P Q T : List α} {x y : α} {i j : Nat} (h : P.length = i) (h2 : i + 1 + Q.length = j) : ((P ++ x :: (Q ++ y :: T)).set i y).set j x = P ++ y :: (Q ++ x :: T) := by
  rw [set_cat h, List.set_append_right _ _ (by omega), show j - P.length = Q.length + 1 by omega, List.set_cons_succ, set_cat rfl]
theorem swap_cat' {P Q T : List α} {x y : α} {i j : Nat} (h : P.length = i) (h2 : i + 1 + Q.length = j) : ((P ++ x :: (Q ++ y :: T)).set j x).set i y = P ++ y :: (Q ++ x :: T) := by
  rw [List.set_comm _ _ (by omega)]; exact swap_cat h h2
/-- Two ranges, the first t places of which have been swapped. -/
def swR (L A M B R : List α) (t : Nat) : List α := L ++ (B.take t ++ (A.drop t ++ (M ++ (A.take t ++ (B.drop t ++ R)))))
theorem swR_zero (L A M B R : List α) : swR L A M B R 0 = L ++ (A ++ (M ++ (B ++ R))) := by simp [swR]
theorem swR_all {L A M B R : List α} {k : Nat} (hA : A.length = k) (hB : B.length = k) : swR L A M B R k = L ++ (B ++ (M ++ (A ++ R))) := by
  unfold swR; rw [List.take_of_length_le (by omega), List.take_of_length_le (by omega), List.drop_of_length_le (by omega), List.drop_of_length_le (by omega)]; simp
theorem swR_form {L A M B R : List α} {t : Nat} {x y : α} (hx : A[t]? = some x) (hy : B[t]? = some y) : swR L A M B R t = (L ++ B.take t) ++ x :: ((A.drop (t + 1) ++ (M ++ A.take t)) ++ y :: (B.drop (t + 1) ++ R)) := by
  unfold swR
  rw [show A.drop t = x :: A.drop (t + 1) from by obtain ⟨h, rfl⟩ := List.getElem?_eq_some_iff.1 hx; exact (List.getElem_cons_drop h).symm, show B.drop t = y :: B.drop (t + 1) from by obtain ⟨h, rfl⟩ := List.getElem?_eq_some_iff.1 hy; exact (List.getElem_cons_drop h).symm]
  simp
theorem swR_at {L A M B R : List α} {t a b k : Nat} {x y : α} (hx : A[t]? = some x) (hy : B[t]? = some y) (hL : L.length = a) (hA : A.length = k) (hB : B.length = k) (hb : a + k + M.length = b) :
    (swR L A M B R t)[a + t]? = some x ∧ (swR L A M B R t)[b + t]? = some y ∧ ((swR L A M B R t).set (a + t) y).set (b + t) x = swR L A M B R (t + 1) := by
  have h1 := (List.getElem?_eq_some_iff.1 hx).1
  have p1 : (L ++ B.take t).length = a + t := by rw [List.length_append, List.length_take]; omega
  have p2 : a + t + 1 + (A.drop (t + 1) ++ (M ++ A.take t)).length = b + t := by rw [List.length_append, List.length_append, List.length_drop, List.length_take]; omega
  rw [swR_form hx hy]
  refine ⟨get_cat p1, get_cat2 p1 p2, ?_⟩
  rw [swap_cat p1 p2]
  unfold swR
  rw [take_succ_of hx, take_succ_of hy]
  simp
/-- One element on its way to the right, behind the first t of a list. -/
def bubR (L : List α) (x : α) (B R : List α) (t : Nat) : List α := L ++ (B.take t ++ x :: (B.drop t ++ R))
theorem bubR_at {L B R : List α} {x y : α} {a t : Nat} (hL : L.length = a) (hy : B[t]? = some y) :
    (bubR L x B R t)[a + t]? = some x ∧ (bubR L x B R t)[a + t + 1]? = some y ∧ ((bubR L x B R t).set (a + t) y).set (a + t + 1) x = bubR L x B R (t + 1) := by
  have h1 := (List.getElem?_eq_some_iff.1 hy).1
  have e : bubR L x B R t = (L ++ B.take t) ++ x :: ([] ++ y :: (B.drop (t + 1) ++ R)) := by
    unfold bubR
    rw [show B.drop t = y :: B.drop (t + 1) from by obtain ⟨h, rfl⟩ := List.getElem?_eq_some_iff.1 hy; exact (List.getElem_cons_drop h).symm]
    simp
  have p1 : (L ++ B.take t).length = a + t := by rw [List.length_append, List.length_take]; omega
  rw [e]
  refine ⟨get_cat p1, get_cat2 p1 (by simp), ?_⟩
  rw [swap_cat p1 (by simp)]
  unfold bubR
  rw [take_succ_of hy]
  simp
/-- One element on its way to the left: it stands behind the first t of a list. -/
theorem bubL_at {L A R : List α} {x y : α} {a t : Nat} (hL : L.length = a) (hx : A[t]? = some x) :
    (bubR L y A R (t + 1))[a + t + 1]? = some y ∧ (bubR L y A R (t + 1))[a + t]? = some x ∧ ((bubR L y A R (t + 1)).set (a + t + 1) x).set (a + t) y = bubR L y A R t := by
  have h1 := (List.getElem?_eq_some_iff.1 hx).1
  have e : bubR L y A R (t + 1) = (L ++ A.take t) ++ x :: ([] ++ y :: (A.drop (t + 1) ++ R)) := by
    unfold bubR; rw [take_succ_of hx]; simp
  have p1 : (L ++ A.take t).length = a + t := by rw [List.length_append, List.length_take]; omega
  rw [e]
  refine ⟨get_cat2 p1 (by simp), get_cat p1, ?_⟩
  rw [swap_cat' p1 (by simp)]
  unfold bubR
  rw [show A.drop t = x :: A.drop (t + 1) from by obtain ⟨h, rfl⟩ := List.getElem?_eq_some_iff.1 hx; exact (List.getElem_cons_drop h).symm]
  simp
end
end Go.Proofs.Ytkldejbhhbgefaa
