/- Plain law of the matching of a sequence with a part of another one: the best part that ends at a place, by one table. -/
import Derived.Test.YtfbcnojnpjbghaaTp
namespace Go.Proofs.Ytfbcnojnpjbghaa
open Go.RowKit
set_option linter.unusedVariables false
theorem tb_cong {inf : Int} {a b b' : List T3} {band : Int} : ∀ (s i j : Nat), i + j = s → (∀ q, q ≤ j → b.getD q (0, 0, 0) = b'.getD q (0, 0, 0)) → tb inf a b band i j = tb inf a b' band i j := by
  intro s
  induction s using Nat.strongRecOn with
  | _ s ih =>
    intro i j hs h
    have hc : cst a b i j = cst a b' i j := by unfold cst; rw [h j (Nat.le_refl _)]
    rw [tb_eq, tb_eq inf a b']
    have ha : ahead inf (tb inf a b band) i j = ahead inf (tb inf a b' band) i j := by
      unfold ahead
      split
      · rfl
      · exact lbF_cong (fun r q hrq => ih (r + q) (by omega) r q rfl (fun p hp => h p (by omega)))
    rw [ha]; unfold fin; rw [hc]
/-- The least cost of matching the first i + 1 with what begins at s, t further elements. -/
def dP (a b : List T3) (s i t : Nat) : Int := tb 100000 a (b.drop s) 72 i t
def pcst (a b : List T3) (i j : Nat) : Int := cst a b i j
theorem cst_drop (a b : List T3) (s i t : Nat) : cst a (b.drop s) i t = cst a b i (s + t) := by
  unfold cst; rw [List.getD_eq_getElem?_getD (l := b.drop s), List.getElem?_drop, ← List.getD_eq_getElem?_getD]
section
variable {a b : List T3} (ha : a.all featOk = true) (hb : b.all featOk = true) (la : a.length ≤ 72) (lb : b.length ≤ 72)
include ha hb la lb
theorem dP_bd {s i t : Nat} (hi : i < a.length) (ht : s + t < b.length) : 0 ≤ dP a b s i t ∧ dP a b s i t ≤ 82656 := by
  have hb' : (b.drop s).all featOk = true := List.all_eq_true.2 (fun x hx => List.all_eq_true.1 hb x (List.mem_of_mem_drop hx))
  have hl : (b.drop s).length = b.length - s := List.length_drop
  exact (tb_small (inf := 100000) ha hb' la (by omega) (by omega) (by omega) hi (by omega) (by unfold away; omega)).2
theorem dP_zero {s : Nat} (hi : 0 < a.length) (ht : s < b.length) : dP a b s 0 0 = cst a b 0 s := by
  have _ := And.intro (And.intro ha hb) (And.intro la lb)
  have h := cst_drop a b s 0 0
  unfold dP
  rw [tb_eq]
  have e : ahead 100000 (tb 100000 a (b.drop s) 72) 0 0 = 0 := rfl
  rw [e]
  unfold fin
  rw [if_neg (by unfold away; omega), h]; simp
theorem dP_ahead {s i t : Nat} (hi : i < a.length) (ht : s + t < b.length) (hp : ¬ (i = 0 ∧ t = 0)) : dP a b s i t = lbF 100000 (dP a b s) i t + cst a b i (s + t) := by
  have hb' : (b.drop s).all featOk = true := List.all_eq_true.2 (fun x hx => List.all_eq_true.1 hb x (List.mem_of_mem_drop hx))
  have hl : (b.drop s).length = b.length - s := List.length_drop
  have h := (tb_ahead (inf := 100000) (band := 72) ha hb' la (by omega) (by omega) (by omega) hi (by omega) (by unfold away; omega) hp).1
  rw [cst_drop] at h
  show tb 100000 a (b.drop s) 72 i t = lbF 100000 (tb 100000 a (b.drop s) 72) i t + cst a b i (s + t)
  omega
theorem dP_row {s t : Nat} (hi : 0 < a.length) (ht : s + (t + 1) < b.length) : dP a b s 0 (t + 1) = dP a b s 0 t + cst a b 0 (s + (t + 1)) := by
  have h := dP_ahead ha hb la lb hi ht (by omega)
  have h2 := dP_bd ha hb la lb hi (show s + t < b.length by omega)
  simp only [lbF] at h; omega
theorem dP_col {s i : Nat} (hi : i + 1 < a.length) (ht : s < b.length) : dP a b s (i + 1) 0 = dP a b s i 0 + cst a b (i + 1) s := by
  have h := dP_ahead ha hb la lb hi (t := 0) ht (by omega)
  have h2 := dP_bd ha hb la lb (s := s) (i := i) (t := 0) (by omega) ht
  simp only [lbF, Nat.add_zero] at h; omega
theorem dP_mid {s i t : Nat} (hi : i + 1 < a.length) (ht : s + (t + 1) < b.length) : dP a b s (i + 1) (t + 1) = min (min (dP a b s i t) (dP a b s i (t + 1))) (dP a b s (i + 1) t) + cst a b (i + 1) (s + (t + 1)) := by
  have h := dP_ahead ha hb la lb hi ht (by omega)
  have h2 := dP_bd ha hb la lb (s := s) (i := i) (t := t) (by omega) (by omega)
  simp only [lbF] at h; omega
end
/-- A part: its cost, where it begins. -/
def bet (p q : Int × Nat) : Bool := decide (p.1 < q.1) || (decide (p.1 = q.1) && decide (q.2 < p.2))
def bst (p q : Int × Nat) : Int × Nat := if bet p q = true then p else q
def pt0 (i j : Nat) : Int × Nat := if i = 0 then (0, j) else (1099511627776, 0)
def pt1 (F : Nat → Nat → Int × Nat) (i j : Nat) : Int × Nat := if 0 < i ∧ 0 < j then bst (F (i - 1) (j - 1)) (pt0 i j) else pt0 i j
def pt2 (F : Nat → Nat → Int × Nat) (i j : Nat) : Int × Nat := if 0 < i then bst (F (i - 1) j) (pt1 F i j) else pt1 F i j
def pt3 (F : Nat → Nat → Int × Nat) (i j : Nat) : Int × Nat := if 0 < j then bst (F i (j - 1)) (pt2 F i j) else pt2 F i j
def ptP (F : Nat → Nat → Int × Nat) (i j : Nat) : Nat → Int × Nat
  | 0 => pt0 i j
  | 1 => pt1 F i j
  | 2 => pt2 F i j
  | _ => pt3 F i j
def pt (a b : List T3) : Nat → Nat → Int × Nat
  | 0, 0 => (cst a b 0 0, 0)
  | 0, j + 1 => ((bst (pt a b 0 j) (0, j + 1)).1 + cst a b 0 (j + 1), (bst (pt a b 0 j) (0, j + 1)).2)
  | i + 1, 0 => ((bst (pt a b i 0) (1099511627776, 0)).1 + cst a b (i + 1) 0, (bst (pt a b i 0) (1099511627776, 0)).2)
  | i + 1, j + 1 => ((bst (pt a b (i + 1) j) (bst (pt a b i (j + 1)) (bst (pt a b i j) (1099511627776, 0)))).1 + cst a b (i + 1) (j + 1), (bst (pt a b (i + 1) j) (bst (pt a b i (j + 1)) (bst (pt a b i j) (1099511627776, 0)))).2)
termination_by i j => (i, j)
theorem pt_eq (a b : List T3) (i j : Nat) : pt a b i j = ((pt3 (pt a b) i j).1 + cst a b i j, (pt3 (pt a b) i j).2) := by
  match i, j with
  | 0, 0 => rw [pt]; simp [pt3, pt2, pt1, pt0]
  | 0, j + 1 => rw [pt]; simp [pt3, pt2, pt1, pt0]
  | i + 1, 0 => rw [pt]; simp [pt3, pt2, pt1, pt0]
  | i + 1, j + 1 => rw [pt]; simp [pt3, pt2, pt1, pt0]
theorem bst_cases (p q : Int × Nat) : (bst p q = p ∧ (p.1 < q.1 ∨ (p.1 = q.1 ∧ q.2 < p.2))) ∨ (bst p q = q ∧ ¬ (p.1 < q.1 ∨ (p.1 = q.1 ∧ q.2 < p.2))) := by
  unfold bst bet
  by_cases h : p.1 < q.1 ∨ (p.1 = q.1 ∧ q.2 < p.2)
  · left; rw [if_pos (by simpa using h)]; exact ⟨rfl, h⟩
  · right; rw [if_neg (by simpa using h)]; exact ⟨rfl, h⟩
/-- The best part that ends at j. -/
def IsB (a b : List T3) (i j : Nat) (p : Int × Nat) : Prop := p.2 ≤ j ∧ p.1 = dP a b p.2 i (j - p.2) ∧ ∀ s, s ≤ j → p.1 < dP a b s i (j - s) ∨ (p.1 = dP a b s i (j - s) ∧ s ≤ p.2)
section
variable {a b : List T3} (ha : a.all featOk = true) (hb : b.all featOk = true) (la : a.length ≤ 72) (lb : b.length ≤ 72)
include ha hb la lb
theorem pt_best : ∀ (q i j : Nat), i + j = q → i < a.length → j < b.length → IsB a b i j (pt a b i j) ∧ 0 ≤ (pt a b i j).1 ∧ (pt a b i j).1 ≤ 82656 := by
  intro q
  induction q using Nat.strongRecOn with
  | _ q ih =>
    intro i j hq hi hj
    have hc := cst_bd ha hb hi hj
    have key : IsB a b i j (pt a b i j) := by
      match i, j, hq, hi, hj, hc with
      | 0, 0, hq, hi, hj, hc =>
        rw [pt]
        refine ⟨Nat.le_refl _, (dP_zero ha hb la lb hi hj).symm, fun s hs => ?_⟩
        obtain rfl : s = 0 := by omega
        exact .inr ⟨(dP_zero ha hb la lb hi hj).symm, Nat.le_refl _⟩
      | 0, j + 1, hq, hi, hj, hc =>
        obtain ⟨⟨b1, b2, b3⟩, b4, b5⟩ := ih j (by omega) 0 j (by omega) hi (by omega)
        have hbst : bst (pt a b 0 j) (0, j + 1) = (0, j + 1) := by
          rcases bst_cases (pt a b 0 j) (0, j + 1) with ⟨h1, h2⟩ | ⟨h1, h2⟩
          · simp only at h2; omega
          · exact h1
        rw [pt, hbst]
        simp only [Int.zero_add]
        have z := dP_zero ha hb la lb (s := j + 1) hi hj
        refine ⟨Nat.le_refl _, by simp only [Nat.sub_self]; exact z.symm, fun s hs => ?_⟩
        simp only
        by_cases e : s = j + 1
        · subst e; rw [Nat.sub_self, z]; exact .inr ⟨rfl, Nat.le_refl _⟩
        · have h1 := dP_row ha hb la lb (s := s) (t := j - s) hi (by omega)
          rw [show s + (j - s + 1) = j + 1 by omega] at h1
          rw [show j + 1 - s = j - s + 1 by omega, h1]
          have h2 := dP_bd ha hb la lb (s := s) (i := 0) (t := j - s) hi (by omega)
          omega
      | i + 1, 0, hq, hi, hj, hc =>
        obtain ⟨⟨b1, b2, b3⟩, b4, b5⟩ := ih i (by omega) i 0 (by omega) (by omega) hj
        have hbst : bst (pt a b i 0) (1099511627776, 0) = pt a b i 0 := by
          rcases bst_cases (pt a b i 0) (1099511627776, 0) with ⟨h1, h2⟩ | ⟨h1, h2⟩
          · exact h1
          · simp only at h2; omega
        rw [pt, hbst]
        have h0 : (pt a b i 0).2 = 0 := by omega
        rw [h0] at b2 ⊢
        have h1 := dP_col ha hb la lb (s := 0) hi hj
        simp only [Nat.sub_self] at b2 ⊢
        refine ⟨Nat.le_refl _, by simp only; rw [h1, b2], fun s hs => ?_⟩
        obtain rfl : s = 0 := by omega
        simp only [Nat.sub_self]
        rw [h1, b2]
        exact .inr ⟨rfl, Nat.le_refl _⟩
      | i + 1, j + 1, hq, hi, hj, hc =>
        obtain ⟨⟨p1, p2, p3⟩, p4, p5⟩ := ih (i + j) (by omega) i j (by omega) (by omega) (by omega)
        obtain ⟨⟨q1, q2, q3⟩, q4, q5⟩ := ih (i + (j + 1)) (by omega) i (j + 1) (by omega) (by omega) hj
        obtain ⟨⟨r1, r2, r3⟩, r4, r5⟩ := ih (i + 1 + j) (by omega) (i + 1) j (by omega) hi (by omega)
        rw [pt]
        have hb1 : bst (pt a b i j) (1099511627776, 0) = pt a b i j := by
          rcases bst_cases (pt a b i j) (1099511627776, 0) with ⟨h1, h2⟩ | ⟨h1, h2⟩
          · exact h1
          · simp only at h2; omega
        rw [hb1]
        generalize pt a b i j = P at *
        generalize pt a b i (j + 1) = Q at *
        generalize pt a b (i + 1) j = R at *
        -- the best of the three
        obtain ⟨B, hB, m1, m2, m3, m4⟩ : ∃ B, bst R (bst Q P) = B ∧ (B = P ∨ B = Q ∨ B = R) ∧ (B.1 < P.1 ∨ (B.1 = P.1 ∧ P.2 ≤ B.2)) ∧ (B.1 < Q.1 ∨ (B.1 = Q.1 ∧ Q.2 ≤ B.2)) ∧ (B.1 < R.1 ∨ (B.1 = R.1 ∧ R.2 ≤ B.2)) := by
          refine ⟨_, rfl, ?_⟩
          rcases bst_cases Q P with ⟨h1, h2⟩ | ⟨h1, h2⟩ <;> rw [h1]
          · rcases bst_cases R Q with ⟨h3, h4⟩ | ⟨h3, h4⟩ <;> rw [h3]
            · exact ⟨.inr (.inr rfl), by omega, by omega, by omega⟩
            · exact ⟨.inr (.inl rfl), by omega, by omega, by omega⟩
          · rcases bst_cases R P with ⟨h3, h4⟩ | ⟨h3, h4⟩ <;> rw [h3]
            · exact ⟨.inr (.inr rfl), by omega, by omega, by omega⟩
            · exact ⟨.inl rfl, by omega, by omega, by omega⟩
        rw [hB]
        -- every part that ends here
        have all : ∀ s, s ≤ j + 1 → B.1 + cst a b (i + 1) (j + 1) < dP a b s (i + 1) (j + 1 - s) ∨ (B.1 + cst a b (i + 1) (j + 1) = dP a b s (i + 1) (j + 1 - s) ∧ s ≤ B.2) := by
          intro s hs
          by_cases e : s = j + 1
          · subst e
            have h1 := dP_col ha hb la lb (s := j + 1) hi hj
            have h2 := q3 (j + 1) (Nat.le_refl _)
            rw [Nat.sub_self] at h2 ⊢
            omega
          · have h1 := dP_mid ha hb la lb (s := s) (i := i) (t := j - s) hi (by omega)
            rw [show s + (j - s + 1) = j + 1 by omega] at h1
            have h2 := p3 s (by omega)
            have h3 := q3 s (by omega)
            have h4 := r3 s (by omega)
            rw [show j + 1 - s = j - s + 1 by omega] at h3 ⊢
            omega
        have hle : B.2 ≤ j + 1 := by rcases m1 with rfl | rfl | rfl <;> omega
        refine ⟨hle, ?_, all⟩
        simp only
        -- it is one of them
        rcases all B.2 hle with h | h
        · exfalso
          rcases m1 with rfl | rfl | rfl
          · have h1 := dP_mid ha hb la lb (s := B.2) (i := i) (t := j - B.2) hi (by omega)
            rw [show B.2 + (j - B.2 + 1) = j + 1 by omega] at h1
            rw [show j + 1 - B.2 = j - B.2 + 1 by omega] at h
            omega
          · by_cases e : B.2 = j + 1
            · have h1 := dP_col ha hb la lb (s := B.2) hi (by omega)
              rw [e] at h1 q2 h
              rw [Nat.sub_self] at q2 h
              omega
            · have h1 := dP_mid ha hb la lb (s := B.2) (i := i) (t := j - B.2) hi (by omega)
              rw [show B.2 + (j - B.2 + 1) = j + 1 by omega] at h1
              rw [show j + 1 - B.2 = j - B.2 + 1 by omega] at h q2
              omega
          · have h1 := dP_mid ha hb la lb (s := B.2) (i := i) (t := j - B.2) hi (by omega)
            rw [show B.2 + (j - B.2 + 1) = j + 1 by omega] at h1
            rw [show j + 1 - B.2 = j - B.2 + 1 by omega] at h
            omega
        · exact h.1
    refine ⟨key, ?_⟩
    obtain ⟨k1, k2, _⟩ := key
    rw [k2]
    exact dP_bd ha hb la lb hi (by omega)
end
theorem IsB_uniq {a b : List T3} {i j : Nat} {p q : Int × Nat} (h : IsB a b i j p) (h' : IsB a b i j q) : p = q := by
  obtain ⟨p1, p2, p3⟩ := h
  obtain ⟨q1, q2, q3⟩ := h'
  have h1 := p3 q.2 q1
  have h2 := q3 p.2 p1
  exact Prod.ext (by omega) (by omega)
/-- The first end with the least cost. -/
def fmn (c : Nat → Int) : Nat → Nat
  | 0 => 0
  | k + 1 => if c k < c (fmn c k) then k else fmn c k
theorem fmn_yes {c : Nat → Int} {k : Nat} (h : c k < c (fmn c k)) : fmn c (k + 1) = k := by rw [fmn, if_pos h]
theorem fmn_no {c : Nat → Int} {k : Nat} (h : ¬ c k < c (fmn c k)) : fmn c (k + 1) = fmn c k := by rw [fmn, if_neg h]
theorem fmn_lt {c : Nat → Int} : ∀ {k m : Nat}, k ≤ m → 0 < m → fmn c k < m
  | 0, m, _, h => h
  | k + 1, m, h, h0 => by
    rw [fmn]; split
    · omega
    · exact fmn_lt (by omega) h0
/-- The reference's search: the best so far, over ends up to k (all begins). -/
def psA (a b : List T3) (k : Nat) : Int × Nat × Nat := if k = 0 then (1000000000, 0, 0) else ((pt a b (a.length - 1) (fmn (fun j => (pt a b (a.length - 1) j).1) k)).1, (pt a b (a.length - 1) (fmn (fun j => (pt a b (a.length - 1) j).1) k)).2, fmn (fun j => (pt a b (a.length - 1) j).1) k + 1)
/-- One step of it: the part from s to e (e excluded) is looked at. -/
def psS (a b : List T3) (e s : Nat) (q : Int × Nat × Nat) : Int × Nat × Nat := if dP a b s (a.length - 1) (e - 1 - s) < q.1 then (dP a b s (a.length - 1) (e - 1 - s), s, e) else q
/-- The begins from e - 1 down, k of them. -/
def psB (a b : List T3) (e : Nat) (q : Int × Nat × Nat) : Nat → Int × Nat × Nat
  | 0 => q
  | k + 1 => psS a b e (e - 1 - k) (psB a b e q k)
theorem psB_inv {a b : List T3} {e : Nat} {q : Int × Nat × Nat} : ∀ {k : Nat}, k ≤ e → 
    (psB a b e q k = q ∧ ∀ s, e - k ≤ s → s < e → q.1 ≤ dP a b s (a.length - 1) (e - 1 - s)) ∨
    (∃ f, psB a b e q k = (dP a b f (a.length - 1) (e - 1 - f), f, e) ∧ e - k ≤ f ∧ f < e ∧ dP a b f (a.length - 1) (e - 1 - f) < q.1 ∧ ∀ s, e - k ≤ s → s < e → dP a b f (a.length - 1) (e - 1 - f) < dP a b s (a.length - 1) (e - 1 - s) ∨ (dP a b f (a.length - 1) (e - 1 - f) = dP a b s (a.length - 1) (e - 1 - s) ∧ s ≤ f))
  | 0, _ => .inl ⟨rfl, fun s h h' => by omega⟩
  | k + 1, hk => by
    rw [psB]
    rcases psB_inv (a := a) (b := b) (q := q) (show k ≤ e by omega) with ⟨h1, h2⟩ | ⟨f, h1, h2, h3, h4, h5⟩
    · rw [h1]; unfold psS
      by_cases hd : dP a b (e - 1 - k) (a.length - 1) (e - 1 - (e - 1 - k)) < q.1
      · rw [if_pos hd]
        refine .inr ⟨e - 1 - k, rfl, by omega, by omega, hd, fun s hs hs' => ?_⟩
        by_cases es : s = e - 1 - k
        · subst es; exact .inr ⟨rfl, Nat.le_refl _⟩
        · have := h2 s (by omega) hs'; exact .inl (by omega)
      · rw [if_neg hd]
        refine .inl ⟨rfl, fun s hs hs' => ?_⟩
        by_cases es : s = e - 1 - k
        · subst es; omega
        · exact h2 s (by omega) hs'
    · rw [h1]; unfold psS
      simp only
      by_cases hd : dP a b (e - 1 - k) (a.length - 1) (e - 1 - (e - 1 - k)) < dP a b f (a.length - 1) (e - 1 - f)
      · rw [if_pos hd]
        refine .inr ⟨e - 1 - k, rfl, by omega, by omega, by omega, fun s hs hs' => ?_⟩
        by_cases es : s = e - 1 - k
        · subst es; exact .inr ⟨rfl, Nat.le_refl _⟩
        · rcases h5 s (by omega) hs' with h | h <;> exact .inl (by omega)
      · rw [if_neg hd]
        refine .inr ⟨f, rfl, by omega, h3, h4, fun s hs hs' => ?_⟩
        by_cases es : s = e - 1 - k
        · subst es
          rcases Int.lt_or_eq_of_le (show dP a b f (a.length - 1) (e - 1 - f) ≤ dP a b (e - 1 - k) (a.length - 1) (e - 1 - (e - 1 - k)) by omega) with h | h
          · exact .inl h
          · exact .inr ⟨h, by omega⟩
        · exact h5 s (by omega) hs'
theorem psA_step {a b : List T3} (ha : a.all featOk = true) (hb : b.all featOk = true) (la : a.length ≤ 72) (lb : b.length ≤ 72) (hn : 0 < a.length) {k : Nat} (hk : k < b.length) : psB a b (k + 1) (psA a b k) (k + 1) = psA a b (k + 1) := by
  obtain ⟨hB, p0, p1⟩ := pt_best ha hb la lb _ (a.length - 1) k rfl (by omega) hk
  have h := psB_inv (a := a) (b := b) (e := k + 1) (q := psA a b k) (k := k + 1) (Nat.le_refl _)
  simp only [Nat.sub_self, Nat.add_sub_cancel] at h
  generalize hpk : pt a b (a.length - 1) k = PK at *
  have hcmp : ∀ v : Int × Nat × Nat, v = psA a b k → (PK.1 < v.1 → psA a b (k + 1) = (PK.1, PK.2, k + 1)) ∧ (¬ PK.1 < v.1 → psA a b (k + 1) = v) := by
    intro v hv
    subst hv
    unfold psA
    rw [if_neg (show ¬ k + 1 = 0 by omega)]
    by_cases h0 : k = 0
    · subst h0
      rw [if_pos rfl]
      have e : fmn (fun j => (pt a b (a.length - 1) j).1) (0 + 1) = 0 := fmn_no (by simp [fmn])
      rw [e, hpk]
      exact ⟨fun _ => rfl, fun h9 => absurd (show PK.1 < 1000000000 by omega) h9⟩
    · rw [if_neg h0]
      constructor
      · intro h9
        rw [fmn_yes (c := fun j => (pt a b (a.length - 1) j).1) (by show (pt a b (a.length - 1) k).1 < _; rw [hpk]; exact h9), hpk]
      · intro h9
        rw [fmn_no (c := fun j => (pt a b (a.length - 1) j).1) (by show ¬ (pt a b (a.length - 1) k).1 < _; rw [hpk]; exact h9)]
  obtain ⟨c1, c2⟩ := hcmp _ rfl
  rcases h with ⟨h1, h2⟩ | ⟨f, h1, _, h3, h4, h5⟩
  · rw [h1, c2 ?_]
    obtain ⟨b1, b2, _⟩ := hB
    have := h2 PK.2 (by omega) (by omega)
    omega
  · have hU : PK = (dP a b f (a.length - 1) (k - f), f) := IsB_uniq hB ⟨by simp only; omega, rfl, fun s hs => h5 s (by omega) (by omega)⟩
    rw [h1, c1 (by rw [hU]; exact h4), hU]
end Go.Proofs.Ytfbcnojnpjbghaa
