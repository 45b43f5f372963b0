/- Plain law of the stable sort: keys, tags, insertion, symmetric merge. -/
import Derived.Test.YtkldejbhhbgefaaSn
namespace Go.Proofs.Ytkldejbhhbgefaa
set_option linter.unusedVariables false
section
variable {α : Type} (key tag : α → Int)
/-- By key; among equal keys by tag. -/
def ltk (x y : α) : Prop := key x < key y ∨ (key x = key y ∧ tag x < tag y)
def Sd (l : List α) : Prop := l.Pairwise (ltk key tag)
/-- Every tag of the first list is less than every tag of the second. -/
def Tg (A B : List α) : Prop := ∀ x ∈ A, ∀ y ∈ B, tag x < tag y
end
section
variable {α : Type} {key tag : α → Int}
theorem ltk_trans {x y z : α} (h : ltk key tag x y) (h' : ltk key tag y z) : ltk key tag x z := by unfold ltk at *; omega
theorem ltk_irrefl (x : α) : ¬ ltk key tag x x := by unfold ltk; omega
theorem ltk_of {x y : α} (ht : tag x < tag y) (h : ¬ key y < key x) : ltk key tag x y := by unfold ltk; omega
theorem ltk_of' {x y : α} (h : key y < key x) : ltk key tag y x := .inl h
theorem Tg.sub {A B A' B' : List α} (h : Tg tag A B) (hA : ∀ x ∈ A', x ∈ A) (hB : ∀ x ∈ B', x ∈ B) : Tg tag A' B' := fun x hx y hy => h x (hA x hx) y (hB y hy)
theorem sd_get {l : List α} (h : Sd key tag l) {i j : Nat} {x y : α} (hij : i < j) (hx : l[i]? = some x) (hy : l[j]? = some y) : ltk key tag x y := by
  obtain ⟨h1, rfl⟩ := List.getElem?_eq_some_iff.1 hx
  obtain ⟨h2, rfl⟩ := List.getElem?_eq_some_iff.1 hy
  exact (List.pairwise_iff_getElem.1 h) i j h1 h2 hij
theorem sd_take {l : List α} (h : Sd key tag l) (k : Nat) : Sd key tag (l.take k) := List.Pairwise.sublist (List.take_sublist k l) h
theorem sd_drop {l : List α} (h : Sd key tag l) (k : Nat) : Sd key tag (l.drop k) := List.Pairwise.sublist (List.drop_sublist k l) h
theorem sd_split {l : List α} (h : Sd key tag l) (k : Nat) {x y : α} (hx : x ∈ l.take k) (hy : y ∈ l.drop k) : ltk key tag x y := by
  have h1 : Sd key tag (l.take k ++ l.drop k) := by rw [List.take_append_drop]; exact h
  exact (List.pairwise_append.1 h1).2.2 x hx y hy
/-- What stands in the first k places is not above the last of them. -/
theorem sd_upto {l : List α} (h : Sd key tag l) {k : Nat} {z : α} (hz : l[k]? = some z) {x : α} (hx : x ∈ l.take (k + 1)) : x = z ∨ ltk key tag x z := by
  obtain ⟨i, hi⟩ := List.getElem?_of_mem hx
  have hik : i < k + 1 := by have := (List.getElem?_eq_some_iff.1 hi).1; rw [List.length_take] at this; omega
  rw [List.getElem?_take_of_lt hik] at hi
  rcases Nat.lt_or_ge i k with h1 | h1
  · exact .inr (sd_get h h1 hi hz)
  · rw [show i = k by omega, hz] at hi; cases hi; exact .inl rfl
theorem sd_from {l : List α} (h : Sd key tag l) {k : Nat} {z : α} (hz : l[k]? = some z) {x : α} (hx : x ∈ l.drop k) : x = z ∨ ltk key tag z x := by
  obtain ⟨i, hi⟩ := List.getElem?_of_mem hx
  rw [List.getElem?_drop] at hi
  rcases Nat.eq_zero_or_pos i with h1 | h1
  · rw [h1, Nat.add_zero, hz] at hi; cases hi; exact .inl rfl
  · exact .inr (sd_get h (by omega) hz hi)
/-- One element into a sorted list whose tags are greater. -/
theorem sd_one {x : α} {B : List α} {t : Nat} (hB : Sd key tag B) (ht : Tg tag [x] B) (htl : t ≤ B.length) (h1 : t = 0 ∨ ∃ z, B[t - 1]? = some z ∧ key z < key x) (h2 : t = B.length ∨ ∃ z, B[t]? = some z ∧ ¬ key z < key x) :
    Sd key tag (B.take t ++ x :: B.drop t) := by
  unfold Sd
  rw [List.pairwise_append, List.pairwise_cons]
  have hlo : ∀ y ∈ B.take t, ltk key tag y x := by
    intro y hy
    rcases h1 with rfl | ⟨z, hz, hk⟩
    · simp at hy
    · have hy' : y ∈ B.take (t - 1 + 1) := by rwa [Nat.sub_add_cancel (by
        rcases Nat.eq_zero_or_pos t with h | h
        · subst h; simp at hy
        · exact h)]
      rcases sd_upto hB hz hy' with rfl | h
      · exact ltk_of' hk
      · exact ltk_trans h (ltk_of' hk)
  have hhi : ∀ y ∈ B.drop t, ltk key tag x y := by
    intro y hy
    rcases h2 with rfl | ⟨z, hz, hk⟩
    · simp at hy
    · have hxz : ltk key tag x z := ltk_of (ht x (by simp) z (List.mem_of_getElem? hz)) hk
      rcases sd_from hB hz hy with rfl | h
      · exact hxz
      · exact ltk_trans hxz h
  refine ⟨sd_take hB t, ⟨hhi, sd_drop hB t⟩, fun a ha b hb => ?_⟩
  rcases List.mem_cons.1 hb with rfl | hb
  · exact hlo a ha
  · exact sd_split hB t ha hb
/-- One element into a sorted list whose tags are less. -/
theorem sd_one' {y : α} {A : List α} {t : Nat} (hA : Sd key tag A) (ht : Tg tag A [y]) (htl : t ≤ A.length) (h1 : t = 0 ∨ ∃ z, A[t - 1]? = some z ∧ ¬ key y < key z) (h2 : t = A.length ∨ ∃ z, A[t]? = some z ∧ key y < key z) :
    Sd key tag (A.take t ++ y :: A.drop t) := by
  unfold Sd
  rw [List.pairwise_append, List.pairwise_cons]
  have hlo : ∀ x ∈ A.take t, ltk key tag x y := by
    intro x hx
    rcases h1 with rfl | ⟨z, hz, hk⟩
    · simp at hx
    · have hx' : x ∈ A.take (t - 1 + 1) := by rwa [Nat.sub_add_cancel (by
        rcases Nat.eq_zero_or_pos t with h | h
        · subst h; simp at hx
        · exact h)]
      have hzy : ltk key tag z y := ltk_of (ht z (List.mem_of_getElem? hz) y (by simp)) hk
      rcases sd_upto hA hz hx' with rfl | h
      · exact hzy
      · exact ltk_trans h hzy
  have hhi : ∀ x ∈ A.drop t, ltk key tag y x := by
    intro x hx
    rcases h2 with rfl | ⟨z, hz, hk⟩
    · simp at hx
    · rcases sd_from hA hz hx with rfl | h
      · exact ltk_of' hk
      · exact ltk_trans (ltk_of' hk) h
  refine ⟨sd_take hA t, ⟨hhi, sd_drop hA t⟩, fun a ha b hb => ?_⟩
  rcases List.mem_cons.1 hb with rfl | hb
  · exact hlo a ha
  · exact sd_split hA t ha hb
/-- Behind the rotation all that stands left is less than all that stands right. -/
theorem sd_cross {A B : List α} {s e : Nat} (hA : Sd key tag A) (hB : Sd key tag B) (ht : Tg tag A B)
    (h1 : s = 0 ∨ e = B.length ∨ ∃ x y, A[s - 1]? = some x ∧ B[e]? = some y ∧ ¬ key y < key x) (h2 : s = A.length ∨ e = 0 ∨ ∃ x y, A[s]? = some x ∧ B[e - 1]? = some y ∧ key y < key x) :
    ∀ x ∈ A.take s ++ B.take e, ∀ y ∈ A.drop s ++ B.drop e, ltk key tag x y := by
  intro x hx y hy
  rcases List.mem_append.1 hx with hx | hx <;> rcases List.mem_append.1 hy with hy | hy
  · exact sd_split hA s hx hy
  · rcases h1 with rfl | rfl | ⟨u, v, hu, hv, hk⟩
    · simp at hx
    · simp at hy
    · have hs : s - 1 + 1 = s := Nat.sub_add_cancel (by
        rcases Nat.eq_zero_or_pos s with h | h
        · subst h; simp at hx
        · exact h)
      have huv : ltk key tag u v := ltk_of (ht u (List.mem_of_getElem? hu) v (List.mem_of_getElem? hv)) hk
      have h3 : x = u ∨ ltk key tag x u := sd_upto hA hu (by rwa [hs])
      have h4 : y = v ∨ ltk key tag v y := sd_from hB hv hy
      rcases h3 with rfl | h3 <;> rcases h4 with rfl | h4
      · exact huv
      · exact ltk_trans huv h4
      · exact ltk_trans h3 huv
      · exact ltk_trans h3 (ltk_trans huv h4)
  · rcases h2 with rfl | rfl | ⟨u, v, hu, hv, hk⟩
    · simp at hy
    · simp at hx
    · have he : e - 1 + 1 = e := Nat.sub_add_cancel (by
        rcases Nat.eq_zero_or_pos e with h | h
        · subst h; simp at hx
        · exact h)
      have h3 : x = v ∨ ltk key tag x v := sd_upto hB hv (by rwa [he])
      have h4 : y = u ∨ ltk key tag u y := sd_from hA hu hy
      have hvu : ltk key tag v u := ltk_of' hk
      rcases h3 with rfl | h3 <;> rcases h4 with rfl | h4
      · exact hvu
      · exact ltk_trans hvu h4
      · exact ltk_trans h3 hvu
      · exact ltk_trans h3 (ltk_trans hvu h4)
  · exact sd_split hB e hx hy
theorem sd_join {C D A B : List α} {s e : Nat} (hC : Sd key tag C) (hD : Sd key tag D) (pC : C.Perm (A.take s ++ B.take e)) (pD : D.Perm (A.drop s ++ B.drop e))
    (hx : ∀ x ∈ A.take s ++ B.take e, ∀ y ∈ A.drop s ++ B.drop e, ltk key tag x y) : Sd key tag (C ++ D) ∧ (C ++ D).Perm (A ++ B) := by
  refine ⟨List.pairwise_append.2 ⟨hC, hD, fun x h y h' => hx x (pC.mem_iff.1 h) y (pD.mem_iff.1 h')⟩, ?_⟩
  refine (List.Perm.append pC pD).trans ?_
  have e9 : A.take s ++ (A.drop s ++ (B.take e ++ B.drop e)) = A ++ B := by rw [List.take_append_drop, ← List.append_assoc, List.take_append_drop]
  rw [← e9, List.append_assoc]
  refine List.Perm.append_left _ ?_
  have h3 : ((B.take e ++ A.drop s) ++ B.drop e).Perm ((A.drop s ++ B.take e) ++ B.drop e) := List.Perm.append_right _ List.perm_append_comm
  rw [List.append_assoc, List.append_assoc] at h3
  exact h3
/-- A strictly sorted permutation is what insertion makes. -/
theorem sd_unique {l l' : List α} (h : Sd key tag l) (h' : Sd key tag l') (hp : l.Perm l') : l = l' :=
  List.Perm.eq_of_pairwise (le := ltk key tag) (fun a b _ _ h1 h2 => absurd (ltk_trans h1 h2) (ltk_irrefl a)) h h' hp
/-- Insertion from the right behind what is not above: one by one, with rising tags, it is the stable sort. -/
theorem fold_stable : ∀ (xs acc : List α), Sd key tag acc → Tg tag acc xs → (xs.Pairwise fun a b => tag a < tag b) →
    Sd key tag (xs.foldl (insR fun a b => decide (key a ≤ key b)) acc) ∧ (xs.foldl (insR fun a b => decide (key a ≤ key b)) acc).Perm (acc ++ xs)
  | [], acc, h, _, _ => ⟨h, by simp⟩
  | x :: xs, acc, h, ht, hp => by
    rw [List.pairwise_cons] at hp
    have hl := slotR_le (fun a b => decide (key a ≤ key b)) acc x acc.length
    have hd : ∀ j (hj : j < acc.length), acc.getD j x = acc[j] := fun j hj => by simp [List.getD_eq_getElem?_getD, List.getElem?_eq_getElem hj]
    have hs : Sd key tag (insR (fun a b => decide (key a ≤ key b)) acc x) := by
      refine sd_one' h (fun a ha y hy => ht a ha y (by simp at hy; subst hy; simp)) hl ?_ ?_
      · rcases Nat.eq_zero_or_pos (slotR (fun a b => decide (key a ≤ key b)) acc x acc.length) with h0 | h0
        · exact .inl h0
        · have h1 := slotR_last _ acc x acc.length h0
          rw [hd _ (by omega), decide_eq_true_eq] at h1
          exact .inr ⟨_, List.getElem?_eq_getElem (by omega), by omega⟩
      · rcases Nat.lt_or_ge (slotR (fun a b => decide (key a ≤ key b)) acc x acc.length) acc.length with h0 | h0
        · have h1 := slotR_gt _ acc x acc.length _ (Nat.le_refl _) h0
          rw [hd _ h0, decide_eq_false_iff_not] at h1
          exact .inr ⟨_, List.getElem?_eq_getElem h0, by omega⟩
        · exact .inl (by omega)
    have hpm := insR_perm (fun a b => decide (key a ≤ key b)) acc x
    have ht2 : Tg tag (insR (fun a b => decide (key a ≤ key b)) acc x) xs := fun a ha y hy => by
      rcases List.mem_cons.1 (hpm.mem_iff.1 ha) with rfl | ha
      · exact hp.1 y hy
      · exact ht a ha y (List.mem_cons_of_mem _ hy)
    obtain ⟨h1, h2⟩ := fold_stable xs _ hs ht2 hp.2
    refine ⟨h1, h2.trans ?_⟩
    exact (List.Perm.append_right xs hpm).trans (List.perm_middle (a := x) (l₁ := acc) (l₂ := xs)).symm
end
end Go.Proofs.Ytkldejbhhbgefaa
