/- Plain law: insertion from the right, in any order; it is a permutation, in order. -/
import Derived.Test.YtkldejbhhbgefaaPm
namespace Go.Proofs.Ytkldejbhhbgefaa
/-- Behind how many of the first k the element goes: behind the last that is not above it. -/
def slotR {α : Type} (le : α → α → Bool) (l : List α) (v : α) : Nat → Nat
  | 0 => 0
  | k + 1 => if le (l.getD k v) v = true then k + 1 else slotR le l v k
theorem slotR_le {α : Type} (le : α → α → Bool) (l : List α) (v : α) : ∀ k, slotR le l v k ≤ k
  | 0 => Nat.le_refl _
  | k + 1 => by unfold slotR; split; · exact Nat.le_refl _
                · exact Nat.le_succ_of_le (slotR_le le l v k)
theorem slotR_gt {α : Type} (le : α → α → Bool) (l : List α) (v : α) : ∀ k j, slotR le l v k ≤ j → j < k → le (l.getD j v) v = false
  | 0, j, _, h => by omega
  | k + 1, j, h1, h2 => by
    unfold slotR at h1
    split at h1
    · omega
    · rename_i h
      rcases Nat.lt_or_ge j k with h3 | h3
      · exact slotR_gt le l v k j h1 h3
      · rw [show j = k by omega]; simpa using h
theorem slotR_last {α : Type} (le : α → α → Bool) (l : List α) (v : α) : ∀ k, 0 < slotR le l v k → le (l.getD (slotR le l v k - 1) v) v = true
  | 0, h => by simp [slotR] at h
  | k + 1, h => by
    unfold slotR at h ⊢
    split
    · rename_i h2; simpa using h2
    · rename_i h2; rw [if_neg h2] at h; exact slotR_last le l v k h
def insR {α : Type} (le : α → α → Bool) (l : List α) (v : α) : List α := l.take (slotR le l v l.length) ++ v :: l.drop (slotR le l v l.length)
theorem insR_perm {α : Type} (le : α → α → Bool) (l : List α) (v : α) : (insR le l v).Perm (v :: l) := by
  unfold insR
  refine List.perm_middle.trans ?_
  rw [List.take_append_drop]
theorem insR_len {α : Type} (le : α → α → Bool) (l : List α) (v : α) : (insR le l v).length = l.length + 1 := (insR_perm le l v).length_eq
theorem insR_pw {α : Type} {le : α → α → Bool} (trans : ∀ a b c, le a b = true → le b c = true → le a c = true) (total : ∀ a b, (le a b || le b a) = true) {l : List α} (v : α) (h : l.Pairwise (fun a b => le a b = true)) :
    (insR le l v).Pairwise (fun a b => le a b = true) := by
  have hk := slotR_le le l v l.length
  have hd : ∀ j (hj : j < l.length), l.getD j v = l[j] := fun j hj => by simp [List.getD_eq_getElem?_getD, List.getElem?_eq_getElem hj]
  have hlo : ∀ a ∈ l.take (slotR le l v l.length), le a v = true := by
    intro a ha
    obtain ⟨i, hi, rfl⟩ := List.mem_iff_getElem.1 ha
    rw [List.length_take] at hi
    have hp : 0 < slotR le l v l.length := by omega
    have hl := slotR_last le l v l.length hp
    rw [hd _ (by omega)] at hl
    rw [List.getElem_take]
    rcases Nat.lt_or_ge i (slotR le l v l.length - 1) with h3 | h3
    · exact trans _ _ _ ((List.pairwise_iff_getElem.1 h) i _ (by omega) (by omega) h3) hl
    · have e : slotR le l v l.length - 1 = i := by omega
      simp only [e] at hl
      exact hl
  have hhi : ∀ a ∈ l.drop (slotR le l v l.length), le v a = true := by
    intro a ha
    obtain ⟨i, hi, rfl⟩ := List.mem_iff_getElem.1 ha
    rw [List.length_drop] at hi
    rw [List.getElem_drop]
    have hg := slotR_gt le l v l.length (slotR le l v l.length + i) (by omega) (by omega)
    rw [hd _ (by omega)] at hg
    have ht := total l[slotR le l v l.length + i] v
    rw [hg, Bool.false_or] at ht
    exact ht
  have hsp : (l.take (slotR le l v l.length) ++ l.drop (slotR le l v l.length)).Pairwise (fun a b => le a b = true) := by rw [List.take_append_drop]; exact h
  rw [List.pairwise_append] at hsp
  unfold insR
  rw [List.pairwise_append, List.pairwise_cons]
  refine ⟨hsp.1, ⟨hhi, hsp.2.1⟩, fun a ha b hb => ?_⟩
  rcases List.mem_cons.1 hb with rfl | hb
  · exact hlo a ha
  · exact hsp.2.2 a ha b hb
theorem fold_insR {α : Type} {le : α → α → Bool} (trans : ∀ a b c, le a b = true → le b c = true → le a c = true) (total : ∀ a b, (le a b || le b a) = true) : ∀ (xs l : List α), l.Pairwise (fun a b => le a b = true) →
    (xs.foldl (insR le) l).Pairwise (fun a b => le a b = true) ∧ (xs.foldl (insR le) l).Perm (xs ++ l)
  | [], l, h => ⟨h, by simp⟩
  | x :: xs, l, h => by
    obtain ⟨h1, h2⟩ := fold_insR trans total xs (insR le l x) (insR_pw trans total x h)
    refine ⟨h1, h2.trans ?_⟩
    exact (List.Perm.append_left xs (insR_perm le l x)).trans List.perm_middle
def leI (a b : Int) : Bool := decide (a ≤ b)
theorem leI_trans (a b c : Int) (h : leI a b = true) (h' : leI b c = true) : leI a c = true := by unfold leI at *; simp only [decide_eq_true_eq] at *; omega
theorem leI_total (a b : Int) : (leI a b || leI b a) = true := by unfold leI; simp only [Bool.or_eq_true, decide_eq_true_eq]; omega
theorem fold_ints (xs : List Int) : xs.foldl (insR leI) [] = xs.mergeSort leI := by
  obtain ⟨h1, h2⟩ := fold_insR leI_trans leI_total xs [] List.Pairwise.nil
  rw [List.append_nil] at h2
  refine List.Perm.eq_of_pairwise (le := fun a b => leI a b = true) ?_ h1 (List.pairwise_mergeSort leI_trans leI_total xs) (h2.trans (List.mergeSort_perm xs leI).symm)
  intro a b _ _ h h'
  unfold leI at *; simp only [decide_eq_true_eq] at *; omega
end Go.Proofs.Ytkldejbhhbgefaa
