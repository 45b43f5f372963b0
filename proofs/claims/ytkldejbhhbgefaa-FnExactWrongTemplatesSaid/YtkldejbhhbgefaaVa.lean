/- Plain law of the vote: votes and sums of costs, the first of the polls and the best of the labels. -/
import Derived.Test.YtkldejbhhbgefaaLt
import Derived.Test.YtkldejbhhbgefaaSx
namespace Go.Proofs.Ytkldejbhhbgefaa
set_option linter.unusedVariables false
abbrev V2 := SL8 × Int
abbrev V3 := SL8 × Int × Int
def cntV (vs : List V2) (s : SL8) : Int := vs.foldl (fun a p => if p.1 = s then a + 1 else a) 0
def smV (vs : List V2) (s : SL8) : Int := vs.foldl (fun a p => if p.1 = s then IntKind.i64.wrap (a + p.2) else a) 0
def dkV (vs : List V2) : List SL8 := vs.foldl (fun d p => if p.1 ∈ d then d else d ++ [p.1]) []
def kV (vs : List V2) (s : SL8) : V3 := (s, cntV vs s, smV vs s)
def plV (vs : List V2) : List V3 := (dkV vs).map (kV vs)
theorem cntV_step (vs : List V2) (p : V2) (s : SL8) : cntV (vs ++ [p]) s = if p.1 = s then cntV vs s + 1 else cntV vs s := by unfold cntV; rw [List.foldl_append]; rfl
theorem smV_step (vs : List V2) (p : V2) (s : SL8) : smV (vs ++ [p]) s = if p.1 = s then IntKind.i64.wrap (smV vs s + p.2) else smV vs s := by unfold smV; rw [List.foldl_append]; rfl
theorem dkV_step (vs : List V2) (p : V2) : dkV (vs ++ [p]) = if p.1 ∈ dkV vs then dkV vs else dkV vs ++ [p.1] := by unfold dkV; rw [List.foldl_append]; rfl
theorem snoc_ind {α : Type} {P : List α → Prop} (h0 : P []) (h1 : ∀ l x, P l → P (l ++ [x])) (l : List α) : P l := by
  have h2 : ∀ l : List α, P l.reverse := by
    intro l
    induction l with
    | nil => exact h0
    | cons x l ih => rw [List.reverse_cons]; exact h1 _ _ ih
  have := h2 l.reverse
  rwa [List.reverse_reverse] at this
theorem dkV_mem (vs : List V2) : ∀ s, s ∈ dkV vs ↔ s ∈ vs.map (·.1) := by
  refine snoc_ind (P := fun vs => ∀ s, s ∈ dkV vs ↔ s ∈ vs.map (·.1)) (by simp [dkV]) (fun vs p ih s => ?_) vs
  rw [dkV_step, List.map_append, List.mem_append, ← ih]
  split
  · rename_i h; constructor
    · exact .inl
    · rintro (h1 | h1)
      · exact h1
      · simp at h1; subst h1; exact h
  · rw [List.mem_append]; rfl
theorem dkV_nodup (vs : List V2) : (dkV vs).Pairwise (· ≠ ·) := by
  refine snoc_ind (P := fun vs => (dkV vs).Pairwise (· ≠ ·)) (by simp [dkV]) (fun vs p ih => ?_) vs
  rw [dkV_step]
  split
  · exact ih
  · rename_i h
    refine List.pairwise_append.2 ⟨ih, List.pairwise_singleton _ _, fun a ha b hb => ?_⟩
    rw [List.mem_singleton] at hb; subst hb
    intro e; subst e; exact h ha
theorem dkV_len (vs : List V2) : (dkV vs).length ≤ vs.length := by
  refine snoc_ind (P := fun vs => (dkV vs).length ≤ vs.length) (by simp [dkV]) (fun vs p ih => ?_) vs
  rw [dkV_step, List.length_append]
  split
  · simp only [List.length_singleton]; omega
  · rw [List.length_append]; simp only [List.length_singleton]; omega
theorem cntV_bd (vs : List V2) (s : SL8) : 0 ≤ cntV vs s ∧ cntV vs s ≤ vs.length := by
  refine snoc_ind (P := fun vs => 0 ≤ cntV vs s ∧ cntV vs s ≤ vs.length) (by simp [cntV]) (fun vs p ih => ?_) vs
  rw [cntV_step, List.length_append]
  split <;> simp only [List.length_singleton] <;> omega
theorem cntV_pos (vs : List V2) (s : SL8) : s ∈ vs.map (·.1) → 1 ≤ cntV vs s := by
  refine snoc_ind (P := fun vs => s ∈ vs.map (·.1) → 1 ≤ cntV vs s) (by simp) (fun vs p ih h => ?_) vs
  rw [cntV_step]
  split
  · have := (cntV_bd vs s).1; omega
  · rename_i hne
    rw [List.map_append, List.mem_append] at h
    rcases h with h | h
    · exact ih h
    · simp at h; exact absurd h.symm hne
theorem cntV_no (vs : List V2) (s : SL8) : s ∉ vs.map (·.1) → cntV vs s = 0 ∧ smV vs s = 0 := by
  refine snoc_ind (P := fun vs => s ∉ vs.map (·.1) → cntV vs s = 0 ∧ smV vs s = 0) (by intro _; exact ⟨rfl, rfl⟩) (fun vs p ih h => ?_) vs
  rw [List.map_append, List.mem_append, not_or] at h
  have hne : ¬ p.1 = s := fun e => h.2 (by simp [e])
  rw [cntV_step, smV_step, if_neg hne, if_neg hne]
  exact ih h.1
/-- The polls behind one more vote: at place i the label's poll. -/
theorem plV_old {vs : List V2} {p : V2} {i : Nat} {q : V3} (hi : (plV vs)[i]? = some q) (hq : q.1 = p.1) : plV (vs ++ [p]) = (plV vs).set i (p.1, q.2.1 + 1, IntKind.i64.wrap (q.2.2 + p.2)) := by
  unfold plV at hi
  rw [List.getElem?_map] at hi
  obtain ⟨s, hs, rfl⟩ := Option.map_eq_some_iff.1 hi
  have hsp : s = p.1 := hq
  subst hsp
  have hm : p.1 ∈ dkV vs := List.mem_of_getElem? hs
  unfold plV
  rw [dkV_step, if_pos hm]
  apply List.ext_getElem?
  intro j
  rw [List.getElem?_set, List.getElem?_map, List.getElem?_map, List.length_map]
  obtain ⟨hil, hse⟩ := List.getElem?_eq_some_iff.1 hs
  split
  · rename_i hij
    subst hij
    rw [hs]
    show some (kV (vs ++ [p]) p.1) = _
    unfold kV
    rw [cntV_step, smV_step, if_pos rfl, if_pos rfl]
  · rename_i hij
    rcases Nat.lt_or_ge j (dkV vs).length with hj | hj
    · rw [List.getElem?_eq_getElem hj]
      show some (kV (vs ++ [p]) _) = some (kV vs _)
      have hne : ¬ p.1 = (dkV vs)[j] := by
        intro e
        have hnd := List.pairwise_iff_getElem.1 (dkV_nodup vs)
        rcases Nat.lt_or_gt_of_ne hij with h | h
        · exact hnd i j hil hj h (hse.trans e)
        · exact hnd j i hj hil h (e.symm.trans hse.symm)
      unfold kV
      rw [cntV_step, smV_step, if_neg hne, if_neg hne]
    · rw [List.getElem?_eq_none hj]; rfl
theorem plV_new {vs : List V2} {p : V2} (h : ∀ q ∈ plV vs, q.1 ≠ p.1) : plV (vs ++ [p]) = plV vs ++ [(p.1, 1, IntKind.i64.wrap p.2)] := by
  have hm : p.1 ∉ dkV vs := fun e => h (kV vs p.1) (List.mem_map_of_mem e) rfl
  have hm2 : p.1 ∉ vs.map (·.1) := fun e => hm ((dkV_mem vs _).2 e)
  unfold plV
  rw [dkV_step, if_neg hm, List.map_append]
  congr 1
  · apply List.map_congr_left
    intro s hs
    have hne : ¬ p.1 = s := fun e => hm (e ▸ hs)
    unfold kV
    rw [cntV_step, smV_step, if_neg hne, if_neg hne]
  · show [kV (vs ++ [p]) p.1] = _
    obtain ⟨h1, h2⟩ := cntV_no vs p.1 hm2
    unfold kV
    rw [cntV_step, smV_step, if_pos rfl, if_pos rfl, h1, h2, Int.zero_add, Int.zero_add]
/-- p stands before q. -/
def lsV (p q : V3) : Prop := q.2.1 < p.2.1 ∨ (p.2.1 = q.2.1 ∧ (p.2.2 < q.2.2 ∨ (p.2.2 = q.2.2 ∧ p.1 < q.1)))
theorem lsV_trans {p q r : V3} (h : lsV p q) (h' : lsV q r) : lsV p r := by
  unfold lsV at *
  rcases h with h | ⟨h1, h | ⟨h2, h⟩⟩ <;> rcases h' with h' | ⟨h1', h' | ⟨h2', h'⟩⟩
  · exact .inl (by omega)
  · exact .inl (by omega)
  · exact .inl (by omega)
  · exact .inl (by omega)
  · exact .inr ⟨by omega, .inl (by omega)⟩
  · exact .inr ⟨by omega, .inl (by omega)⟩
  · exact .inl (by omega)
  · exact .inr ⟨by omega, .inl (by omega)⟩
  · exact .inr ⟨by omega, .inr ⟨by omega, s8_trans h h'⟩⟩
theorem lsV_asymm {p q : V3} (h : lsV p q) (h' : lsV q p) : False := by
  have := lsV_trans h h'
  unfold lsV at this
  rcases this with h | ⟨_, h | ⟨_, h⟩⟩
  · omega
  · omega
  · exact s8_irrefl _ h
theorem s8_tri (a b : SL8) : a < b ∨ a = b ∨ b < a := by
  by_cases h : a < b
  · exact .inl h
  · by_cases h2 : a = b
    · exact .inr (.inl h2)
    · exact .inr (.inr (s8_lt_of_le_ne (s8_not_lt.1 h) (Ne.symm h2)))
theorem lsV_total {p q : V3} (h : p.1 ≠ q.1) : lsV p q ∨ lsV q p := by
  unfold lsV
  rcases Int.lt_trichotomy p.2.1 q.2.1 with h1 | h1 | h1
  · exact .inr (.inl h1)
  · rcases Int.lt_trichotomy p.2.2 q.2.2 with h2 | h2 | h2
    · exact .inl (.inr ⟨h1, .inl h2⟩)
    · rcases s8_tri p.1 q.1 with h3 | h3 | h3
      · exact .inl (.inr ⟨h1, .inr ⟨h2, h3⟩⟩)
      · exact absurd h3 h
      · exact .inr (.inr ⟨h1.symm, .inr ⟨h2.symm, h3⟩⟩)
    · exact .inr (.inr ⟨h1.symm, .inl h2⟩)
  · exact .inl (.inl h1)
instance (p q : V3) : Decidable (lsV p q) := by unfold lsV; infer_instance
/-- The first of the least. -/
def mnV (m : V3) (ps : List V3) : V3 := ps.foldl (fun m p => if lsV p m then p else m) m
theorem mnV_spec : ∀ (ps : List V3) (m : V3), (mnV m ps = m ∨ mnV m ps ∈ ps) ∧ ¬ lsV m (mnV m ps) ∧ ∀ p ∈ ps, ¬ lsV p (mnV m ps)
  | [], m => ⟨.inl rfl, fun h => lsV_asymm h h, fun p hp => by cases hp⟩
  | p :: ps, m => by
    obtain ⟨h1, h2, h3⟩ := mnV_spec ps (if lsV p m then p else m)
    have e : mnV m (p :: ps) = mnV (if lsV p m then p else m) ps := rfl
    rw [e]
    by_cases hc : lsV p m
    · rw [if_pos hc] at h1 h2 h3 ⊢
      refine ⟨.inr (h1.elim (fun h => by rw [h]; exact List.mem_cons_self) (List.mem_cons_of_mem _)), fun h => ?_, fun q hq => ?_⟩
      · exact h2 (lsV_trans hc h)
      · rcases List.mem_cons.1 hq with rfl | hq
        · exact h2
        · exact h3 q hq
    · rw [if_neg hc] at h1 h2 h3 ⊢
      refine ⟨h1.imp id (List.mem_cons_of_mem _), h2, fun q hq => ?_⟩
      rcases List.mem_cons.1 hq with rfl | hq
      · intro h
        rcases h1 with h1 | h1
        · rw [h1] at h; exact hc h
        · by_cases he : m.1 = (mnV m ps).1
          · -- same label: compare by parts
            unfold lsV at h hc h2
            rcases h with h | ⟨e1, h | ⟨e2, h⟩⟩
            · apply hc; rcases Int.lt_trichotomy m.2.1 q.2.1 with g | g | g
              · exact .inl g
              · exact absurd (.inl (by omega)) h2
              · exact absurd (.inl (by omega)) h2
            · rcases Int.lt_trichotomy m.2.1 q.2.1 with g | g | g
              · exact hc (.inl g)
              · rcases Int.lt_trichotomy q.2.2 m.2.2 with g2 | g2 | g2
                · exact hc (.inr ⟨by omega, .inl g2⟩)
                · exact h2 (.inr ⟨by omega, .inl (by omega)⟩)
                · exact h2 (.inr ⟨by omega, .inl (by omega)⟩)
              · exact h2 (.inl (by omega))
            · rcases Int.lt_trichotomy m.2.1 q.2.1 with g | g | g
              · exact hc (.inl g)
              · rcases Int.lt_trichotomy q.2.2 m.2.2 with g2 | g2 | g2
                · exact hc (.inr ⟨by omega, .inl g2⟩)
                · exact hc (.inr ⟨by omega, .inr ⟨g2, by rw [he]; exact h⟩⟩)
                · exact h2 (.inr ⟨by omega, .inl (by omega)⟩)
              · exact h2 (.inl (by omega))
          · rcases lsV_total he with g | g
            · exact h2 g
            · exact hc (lsV_trans h g)
      · exact h3 q hq
/-- The reference's: over the labels in order. -/
def bsV (vs : List V2) (st : V3) (s : SL8) : V3 := if st.2.1 < cntV vs s ∨ (cntV vs s = st.2.1 ∧ smV vs s < st.2.2) then kV vs s else st
theorem bsV_spec (vs : List V2) : ∀ (ls : List SL8), ls.Pairwise (· < ·) → (∀ s ∈ ls, 1 ≤ cntV vs s) → (ls = [] ∧ ls.foldl (bsV vs) ([], 0, 0) = ([], 0, 0)) ∨ ∃ b ∈ ls, ls.foldl (bsV vs) ([], 0, 0) = kV vs b ∧ ∀ t ∈ ls, t ≠ b → lsV (kV vs b) (kV vs t) := by
  intro ls
  refine snoc_ind (P := fun ls => ls.Pairwise (· < ·) → (∀ s ∈ ls, 1 ≤ cntV vs s) → (ls = [] ∧ ls.foldl (bsV vs) ([], 0, 0) = ([], 0, 0)) ∨ ∃ b ∈ ls, ls.foldl (bsV vs) ([], 0, 0) = kV vs b ∧ ∀ t ∈ ls, t ≠ b → lsV (kV vs b) (kV vs t)) (fun _ _ => .inl ⟨rfl, rfl⟩) (fun ls t ih hs hp => ?_) ls
  obtain ⟨hs1, _, hs2⟩ := List.pairwise_append.1 hs
  right
  rw [List.foldl_append]
  have hpt : 1 ≤ cntV vs t := hp t (by simp)
  rcases ih hs1 (fun s h => hp s (List.mem_append_left _ h)) with ⟨rfl, e⟩ | ⟨b, hb, e, hbt⟩
  · refine ⟨t, by simp, ?_, fun u hu hne => ?_⟩
    · rw [e]; show bsV vs ([], 0, 0) t = _; unfold bsV; rw [if_pos (.inl (by show (0 : Int) < _; omega))]
    · simp at hu; exact absurd hu hne
  · rw [e]
    show ∃ b' ∈ ls ++ [t], bsV vs (kV vs b) t = kV vs b' ∧ _
    have hlt : b < t := hs2 b hb t (by simp)
    by_cases hc : (kV vs b).2.1 < cntV vs t ∨ (cntV vs t = (kV vs b).2.1 ∧ smV vs t < (kV vs b).2.2)
    · have htb : lsV (kV vs t) (kV vs b) := by
        rcases hc with hc | ⟨hc, hc2⟩
        · exact .inl hc
        · exact .inr ⟨hc, .inl hc2⟩
      refine ⟨t, by simp, by unfold bsV; rw [if_pos hc], fun u hu hne => ?_⟩
      rcases List.mem_append.1 hu with hu | hu
      · by_cases hub : u = b
        · rw [hub]; exact htb
        · exact lsV_trans htb (hbt u hu hub)
      · simp at hu; exact absurd hu hne
    · refine ⟨b, List.mem_append_left _ hb, by unfold bsV; rw [if_neg hc], fun u hu hne => ?_⟩
      rcases List.mem_append.1 hu with hu | hu
      · exact hbt u hu hne
      · simp at hu
        subst hu
        rw [not_or, not_and] at hc
        obtain ⟨c1, c2⟩ := hc
        have c1' : ¬ cntV vs b < cntV vs u := c1
        rcases Int.lt_trichotomy (cntV vs u) (cntV vs b) with g | g | g
        · exact .inl g
        · have c2' : ¬ smV vs u < smV vs b := c2 g
          refine .inr ⟨g.symm, ?_⟩
          rcases Int.lt_trichotomy (smV vs b) (smV vs u) with g2 | g2 | g2
          · exact .inl g2
          · exact .inr ⟨g2, hlt⟩
          · exact absurd g2 c2'
        · exact absurd g c1'
def lbV (vs : List V2) : List SL8 := (vs.map (·.1)).foldl insL []
def vtV (vs : List V2) : SL8 := ((lbV vs).foldl (bsV vs) ([], 0, 0)).1
theorem lbV_strict (vs : List V2) : (lbV vs).Pairwise (· < ·) ∧ ∀ s, s ∈ lbV vs ↔ s ∈ vs.map (·.1) := by
  obtain ⟨h1, h2⟩ := fold_ins (vs.map (·.1)) [] List.Pairwise.nil
  exact ⟨h1, fun s => by rw [lbV, h2]; simp⟩
/-- The program's choice is the reference's. -/
theorem vote_law {vs : List V2} {p : V3} {ps : List V3} (h : plV vs = p :: ps) : (mnV p ps).1 = vtV vs := by
  obtain ⟨h1, h2, h3⟩ := mnV_spec ps p
  obtain ⟨g1, g2⟩ := lbV_strict vs
  have hmem : mnV p ps ∈ plV vs := by rw [h]; rcases h1 with h1 | h1; · rw [h1]; exact List.mem_cons_self
                                      · exact List.mem_cons_of_mem _ h1
  have hno : ∀ q ∈ plV vs, ¬ lsV q (mnV p ps) := by
    intro q hq
    rw [h] at hq
    rcases List.mem_cons.1 hq with rfl | hq
    · exact h2
    · exact h3 q hq
  obtain ⟨a, ha, hak⟩ := List.mem_map.1 hmem
  rcases bsV_spec vs (lbV vs) g1 (fun s hs => cntV_pos vs s ((g2 s).1 hs)) with ⟨hl, _⟩ | ⟨b, hb, e, hbt⟩
  · have := (g2 a).2 ((dkV_mem vs a).1 ha)
    rw [hl] at this
    cases this
  · unfold vtV
    rw [e]
    have hb2 : b ∈ dkV vs := (dkV_mem vs b).2 ((g2 b).1 hb)
    have ha2 : a ∈ lbV vs := (g2 a).2 ((dkV_mem vs a).1 ha)
    by_cases hab : a = b
    · rw [← hak, hab]
    · exact absurd (hak ▸ hbt a ha2 hab) (hno (kV vs b) (List.mem_map_of_mem hb2))
theorem vote_none {vs : List V2} (h : plV vs = []) : vs = [] := by
  rcases vs with _ | ⟨p, vs⟩
  · rfl
  · have hm : p.1 ∈ dkV (p :: vs) := (dkV_mem _ _).2 (by simp)
    unfold plV at h
    rw [List.map_eq_nil_iff] at h
    rw [h] at hm; cases hm
theorem plV_len (vs : List V2) : (plV vs).length ≤ vs.length := by unfold plV; rw [List.length_map]; exact dkV_len vs
end Go.Proofs.Ytkldejbhhbgefaa
