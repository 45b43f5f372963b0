/- The plain law of LabelsOf: sorting a list of strings and compacting it is inserting them one by one, each once. -/
import Derived.Test.YtkldejbhhbgefaaSt
import Derived.Lib.SlicesCompact
import Derived.Sort.EncStr
namespace Go.Proofs.Ytkldejbhhbgefaa
open Go.RowKit
set_option linter.unusedVariables false
set_option linter.unusedSimpArgs false
abbrev SL8 := List UInt8
theorem s8_irrefl (a : SL8) : ¬ a < a := List.lt_irrefl a
theorem s8_trans {a b c : SL8} (h : a < b) (h2 : b < c) : a < c := List.lt_trans h h2
theorem s8_le_of_lt {a b : SL8} (h : a < b) : a ≤ b := List.le_of_lt h
theorem s8_not_lt {a b : SL8} : ¬ a < b ↔ b ≤ a := List.not_lt
theorem s8_lt_of_le_ne {a b : SL8} (h : a ≤ b) (hn : a ≠ b) : a < b := by
  rcases Classical.em (a < b) with h2 | h2
  · exact h2
  · exact absurd (List.le_antisymm h (List.not_lt.1 h2)) hn
theorem s8_lt_of_lt_of_le {a b c : SL8} (h : a < b) (h2 : b ≤ c) : a < c := by
  rcases Classical.em (b = c) with rfl | h3
  · exact h
  · exact s8_trans h (s8_lt_of_le_ne h2 h3)
theorem s8_lt_of_le_of_lt {a b c : SL8} (h : a ≤ b) (h2 : b < c) : a < c := by
  rcases Classical.em (a = b) with rfl | h3
  · exact h2
  · exact s8_trans (s8_lt_of_le_ne h h3) h2
/-- Two lists in strict order that hold the same are one. -/
theorem strict_ext : ∀ {l1 l2 : List SL8}, l1.Pairwise (· < ·) → l2.Pairwise (· < ·) → (∀ x, x ∈ l1 ↔ x ∈ l2) → l1 = l2
  | [], [], _, _, _ => rfl
  | [], b :: l2, _, _, h => by have := (h b).2 (by simp); simp at this
  | a :: l1, [], _, _, h => by have := (h a).1 (by simp); simp at this
  | a :: l1, b :: l2, h1, h2, h => by
    rw [List.pairwise_cons] at h1 h2
    have hab : a = b := by
      have m1 := (h a).1 (by simp)
      have m2 := (h b).2 (by simp)
      rcases List.mem_cons.1 m1 with e | m1
      · exact e
      · rcases List.mem_cons.1 m2 with e | m2
        · exact e.symm
        · exact absurd (s8_trans (h1.1 b m2) (h2.1 a m1)) (s8_irrefl a)
    subst hab
    refine congrArg _ (strict_ext h1.2 h2.2 fun x => ⟨fun hx => ?_, fun hx => ?_⟩)
    · rcases List.mem_cons.1 ((h x).1 (List.mem_cons_of_mem _ hx)) with e | m
      · subst e; exact absurd (h1.1 x hx) (s8_irrefl x)
      · exact m
    · rcases List.mem_cons.1 ((h x).2 (List.mem_cons_of_mem _ hx)) with e | m
      · subst e; exact absurd (h2.1 x hx) (s8_irrefl x)
      · exact m
/-- Behind how many of the first k the string goes. -/
def slotL (l : List SL8) (t : SL8) : Nat → Nat
  | 0 => 0
  | k + 1 => if t < l.getD k [] then slotL l t k else k + 1
theorem slotL_le (l : List SL8) (t : SL8) : ∀ k, slotL l t k ≤ k
  | 0 => Nat.le_refl _
  | k + 1 => by unfold slotL; split; · exact Nat.le_succ_of_le (slotL_le l t k)
                · exact Nat.le_refl _
theorem slotL_gt (l : List SL8) (t : SL8) : ∀ k j, slotL l t k ≤ j → j < k → t < l.getD j []
  | 0, j, _, h => by omega
  | k + 1, j, h1, h2 => by
    unfold slotL at h1
    split at h1
    · rename_i h
      rcases Nat.lt_or_ge j k with h3 | h3
      · exact slotL_gt l t k j h1 h3
      · rw [show j = k by omega]; exact h
    · omega
theorem slotL_last (l : List SL8) (t : SL8) : ∀ k, 0 < slotL l t k → ¬ t < l.getD (slotL l t k - 1) []
  | 0, h => by simp [slotL] at h
  | k + 1, h => by
    unfold slotL at h ⊢
    split
    · rename_i h2; rw [if_pos h2] at h; exact slotL_last l t k h
    · rename_i h2; simpa using h2
def insL (l : List SL8) (t : SL8) : List SL8 :=
  let k := slotL l t l.length
  if 0 < k ∧ l.getD (k - 1) [] = t then l else l.take k ++ [t] ++ l.drop k
theorem insL_mem (l : List SL8) (t x : SL8) : x ∈ insL l t ↔ x ∈ l ∨ x = t := by
  unfold insL
  simp only
  split
  · rename_i h
    have hk := slotL_le l t l.length
    have hm : t ∈ l := by
      rw [← h.2, List.getD_eq_getElem?_getD, List.getElem?_eq_getElem (by omega)]
      simp
    constructor
    · exact .inl
    · rintro (h | rfl)
      · exact h
      · exact hm
  · constructor
    · intro h
      simp only [List.mem_append, List.mem_singleton] at h
      rcases h with (h | h) | h
      · exact .inl (List.mem_of_mem_take h)
      · exact .inr h
      · exact .inl (List.mem_of_mem_drop h)
    · rintro (h | rfl)
      · rw [← List.take_append_drop (slotL l t l.length) l] at h
        simp only [List.mem_append, List.mem_singleton] at h ⊢
        rcases h with h | h
        · exact .inl (.inl h)
        · exact .inr h
      · simp
theorem pw_lt {l : List SL8} (h : l.Pairwise (· < ·)) {i j : Nat} (hij : i < j) (hj : j < l.length) : l.getD i [] < l.getD j [] := by
  rw [List.pairwise_iff_getElem] at h
  have := h i j (by omega) hj hij
  simpa [List.getD_eq_getElem?_getD, List.getElem?_eq_getElem hj, List.getElem?_eq_getElem (show i < l.length by omega)] using this
theorem insL_strict (l : List SL8) (t : SL8) (h : l.Pairwise (· < ·)) : (insL l t).Pairwise (· < ·) := by
  unfold insL
  simp only
  split
  · exact h
  · rename_i hn
    have hk := slotL_le l t l.length
    have hlo : ∀ a ∈ l.take (slotL l t l.length), a < t := by
      intro a ha
      obtain ⟨i, hi, rfl⟩ := List.mem_iff_getElem.1 ha
      rw [List.length_take] at hi
      have hp : 0 < slotL l t l.length := by omega
      have h1 := slotL_last l t l.length hp
      have h2 : l.getD (slotL l t l.length - 1) [] < t := s8_lt_of_le_ne (s8_not_lt.1 h1) (fun e => hn ⟨hp, e⟩)
      rw [List.getElem_take]
      have e1 : l[i] = l.getD i [] := by rw [List.getD_eq_getElem?_getD, List.getElem?_eq_getElem (by omega)]; rfl
      rw [e1]
      rcases Nat.lt_or_ge i (slotL l t l.length - 1) with h3 | h3
      · exact s8_trans (pw_lt h h3 (by omega)) h2
      · rw [show i = slotL l t l.length - 1 by omega]; exact h2
    have hhi : ∀ a ∈ l.drop (slotL l t l.length), t < a := by
      intro a ha
      obtain ⟨i, hi, rfl⟩ := List.mem_iff_getElem.1 ha
      rw [List.length_drop] at hi
      rw [List.getElem_drop]
      have h1 := slotL_gt l t l.length (slotL l t l.length + i) (by omega) (by omega)
      rw [List.getD_eq_getElem?_getD, List.getElem?_eq_getElem (by omega)] at h1
      exact h1
    rw [List.append_assoc, List.pairwise_append]
    refine ⟨h.sublist (List.take_sublist _ _), ?_, ?_⟩
    · rw [List.singleton_append, List.pairwise_cons]
      exact ⟨hhi, h.sublist (List.drop_sublist _ _)⟩
    · intro a ha b hb
      rcases List.mem_cons.1 hb with rfl | hb
      · exact hlo a ha
      · exact s8_trans (hlo a ha) (hhi b hb)
theorem fold_ins (ls : List SL8) : ∀ acc : List SL8, acc.Pairwise (· < ·) → (ls.foldl insL acc).Pairwise (· < ·) ∧ ∀ x, x ∈ ls.foldl insL acc ↔ x ∈ acc ∨ x ∈ ls := by
  induction ls with
  | nil => intro acc h; exact ⟨h, by simp⟩
  | cons a l ih =>
    intro acc h
    obtain ⟨h1, h2⟩ := ih (insL acc a) (insL_strict acc a h)
    refine ⟨h1, fun x => ?_⟩
    rw [List.foldl_cons, h2, insL_mem, List.mem_cons, or_assoc]
def sortedL (ls : List SL8) : List SL8 := Lib.compact (ls.mergeSort fun x y => decide (x ≤ y))
theorem cmp_mem (zs : List SL8) (x : SL8) : x ∈ Lib.compact zs ↔ x ∈ zs := by
  unfold Lib.compact Lib.compactUpTo
  simp only [List.mem_map, List.mem_filter, List.mem_range]
  constructor
  · rintro ⟨j, ⟨hj, _⟩, rfl⟩
    rw [getElem!_pos _ _ (by simpa using hj)]
    simp
  · intro hx
    obtain ⟨i, hi, rfl⟩ := List.mem_iff_getElem.1 hx
    clear hx
    induction i with
    | zero => exact ⟨0, ⟨hi, by simp [Lib.keeps]⟩, by rw [getElem!_pos _ _ (by simpa using hi)]; simp⟩
    | succ i ih =>
      by_cases he : zs[i + 1] = zs[i]
      · rw [he]; exact ih (by omega)
      · refine ⟨i + 1, ⟨hi, ?_⟩, by rw [getElem!_pos _ _ (by simpa using hi)]; simp⟩
        refine Lib.keeps_pos ?_
        rw [getElem!_pos _ _ (by simpa using hi), getElem!_pos _ _ (by simp; omega)]
        simpa using he
theorem cmp_strict (zs : List SL8) (h : zs.Pairwise (· ≤ ·)) : (Lib.compact zs).Pairwise (· < ·) := by
  unfold Lib.compact Lib.compactUpTo
  rw [List.pairwise_map]
  refine List.Pairwise.imp_of_mem ?_ ((List.pairwise_lt_range (n := zs.length)).filter _)
  intro a b ha hb hab
  simp only [List.mem_filter, List.mem_range] at ha hb
  have hne : zs.toArray[b]! ≠ zs.toArray[b - 1]! := by
    have := hb.2
    simp only [Lib.keeps, decide_eq_true_eq] at this
    rcases this with h9 | h9
    · omega
    · exact h9
  rw [getElem!_pos _ _ (by simpa using hb.1), getElem!_pos _ _ (by simp; omega)] at hne
  rw [getElem!_pos _ _ (by simpa using ha.1), getElem!_pos _ _ (by simpa using hb.1)]
  simp only [List.getElem_toArray] at hne ⊢
  rw [List.pairwise_iff_getElem] at h
  have h1 : zs[b - 1]'(by omega) < zs[b]'(hb.1) := s8_lt_of_le_ne (h (b - 1) b (by omega) hb.1 (by omega)) (fun e => hne e.symm)
  rcases Nat.lt_or_ge a (b - 1) with h3 | h3
  · exact s8_lt_of_le_of_lt (h a (b - 1) ha.1 (by omega) h3) h1
  · have : a = b - 1 := by omega
    subst this; exact h1
theorem sorted_pw (ls : List SL8) : (ls.mergeSort fun x y => decide (x ≤ y)).Pairwise (· ≤ ·) := by
  have h := List.pairwise_mergeSort (le := fun x y : SL8 => decide (x ≤ y)) (by intro a b c; simp only [decide_eq_true_eq]; exact List.le_trans) (by intro a b; simp only [Bool.or_eq_true, decide_eq_true_eq]; exact List.le_total a b) ls
  exact h.imp (by intro a b h; simpa using h)
/-- THE LAW. -/
theorem fold_sorted (ls : List SL8) : ls.foldl insL [] = sortedL ls := by
  obtain ⟨h1, h2⟩ := fold_ins ls [] List.Pairwise.nil
  refine strict_ext h1 (cmp_strict _ (sorted_pw ls)) fun x => ?_
  rw [h2, sortedL, cmp_mem, List.mem_mergeSort]
  simp
def b8 (l : SL8) : ByteArray := ⟨l.toArray⟩
def lbs (ts : List TV) : List SL8 := ts.map (fun x => x.1.data.toList)
def lbE (z : Int) (ts : List TV) : Int := if storeB z ts = true then 0 else 1
def lbL (z : Int) (ts : List TV) : List ByteArray := if storeB z ts = true then (sortedL (lbs ts)).map b8 else []
theorem lb_bad {z : Int} {ts : List TV} (h : storeB z ts = false) : lbE z ts = 1 ∧ lbL z ts = [] := by
  unfold lbE lbL; rw [h]; exact ⟨rfl, rfl⟩
theorem lb_ok {z : Int} {ts : List TV} (h : storeB z ts = true) : lbE z ts = 0 ∧ lbL z ts = (sortedL (lbs ts)).map b8 := by
  unfold lbE lbL; rw [h]; exact ⟨rfl, rfl⟩
end Go.Proofs.Ytkldejbhhbgefaa
