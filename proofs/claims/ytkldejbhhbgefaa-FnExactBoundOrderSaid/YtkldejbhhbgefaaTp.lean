/- Plain law of the path of least cost: the steps back through the table, whatever number stands for 'no path'. -/
import Derived.Test.YtkldejbhhbgefaaEt
namespace Go.Proofs.Ytkldejbhhbgefaa
open Go.RowKit
abbrev P2 := Nat × Nat
def c2n (p : P2) : T2 := ((p.1 : Int), (p.2 : Int))
def stp (T C : Nat → Nat → Int) (p : P2) : P2 :=
  if 0 < p.1 ∧ 0 < p.2 ∧ T (p.1 - 1) (p.2 - 1) = T p.1 p.2 - C p.1 p.2 then (p.1 - 1, p.2 - 1)
  else if 0 < p.1 ∧ T (p.1 - 1) p.2 = T p.1 p.2 - C p.1 p.2 then (p.1 - 1, p.2) else (p.1, p.2 - 1)
def trc (T C : Nat → Nat → Int) : Nat → P2 → List P2
  | 0, p => [p]
  | f + 1, p => if p.1 = 0 ∧ p.2 = 0 then [p] else p :: trc T C f (stp T C p)
theorem trc_head (T C : Nat → Nat → Int) (f : Nat) (p : P2) : trc T C f p = p :: (trc T C f p).drop 1 := by
  cases f with
  | zero => rfl
  | succ f => rw [trc]; split <;> rfl
theorem trc_step {T C : Nat → Nat → Int} {f : Nat} {p q : P2} (hp : ¬ (p.1 = 0 ∧ p.2 = 0)) (hf : p.1 + p.2 ≤ f) (hq : stp T C p = q) : (trc T C f p).drop 1 = q :: (trc T C (f - 1) q).drop 1 := by
  obtain ⟨f, rfl⟩ : ∃ r, f = r + 1 := ⟨f - 1, by omega⟩
  rw [trc, if_neg hp, List.drop_one, List.tail_cons, hq, Nat.add_sub_cancel]
  exact trc_head T C f q
theorem trc_end {T C : Nat → Nat → Int} {f : Nat} {p : P2} (hp : p.1 = 0 ∧ p.2 = 0) : (trc T C f p).drop 1 = [] := by
  cases f with
  | zero => rfl
  | succ f => rw [trc, if_pos hp]; rfl
section
variable {a b : List T3} {band : Int} (ha : a.all featOk = true) (hb : b.all featOk = true) (la : a.length ≤ 72) (lb : b.length ≤ 72) (h0 : 0 ≤ band)
include ha hb la lb h0
theorem tb_small {inf : Int} (hinf : 100000 ≤ inf) {i j : Nat} (hi : i < a.length) (hj : j < b.length) (hw : away i j ≤ band) : tb inf a b band i j = tb 100000 a b band i j ∧ 0 ≤ tb 100000 a b band i j ∧ tb 100000 a b band i j ≤ 82656 := by
  obtain ⟨p1, p2⟩ := tb_in ha hb la lb h0 _ i j rfl hi hj
  refine ⟨(p1 inf hinf).1 hw, ?_⟩
  have := p2 hw; omega
theorem tb_far {inf : Int} (hinf : 100000 ≤ inf) {i j : Nat} (hi : i < a.length) (hj : j < b.length) (hw : band < away i j) : tb inf a b band i j = inf := by
  obtain ⟨p1, p2⟩ := tb_in ha hb la lb h0 _ i j rfl hi hj
  exact (p1 inf hinf).2 hw
theorem tb_ahead {inf : Int} (hinf : 100000 ≤ inf) {i j : Nat} (hi : i < a.length) (hj : j < b.length) (hw : away i j ≤ band) (hp : ¬ (i = 0 ∧ j = 0)) :
    lbF inf (tb inf a b band) i j = tb inf a b band i j - cst a b i j ∧ tb inf a b band i j - cst a b i j ≤ 82656 ∧ 0 ≤ cst a b i j ∧ cst a b i j ≤ 574 := by
  obtain ⟨e1, e2, e3⟩ := tb_small ha hb la lb h0 hinf hi hj hw
  have hc := cst_bd ha hb hi hj
  have he := tb_eq inf a b band i j
  unfold fin ahead at he
  rw [if_neg hp] at he
  split at he
  · omega
  · omega
/-- A step back goes to a place within the band. -/
theorem stp_in {inf : Int} (hinf : 100000 ≤ inf) {i j : Nat} (hi : i < a.length) (hj : j < b.length) (hw : away i j ≤ band) (hp : ¬ (i = 0 ∧ j = 0)) :
    ∃ i' j', stp (tb inf a b band) (cst a b) (i, j) = (i', j') ∧ i' ≤ i ∧ j' ≤ j ∧ i' + j' < i + j ∧ away i' j' ≤ band ∧ i ≤ i' + 1 ∧ j ≤ j' + 1 := by
  obtain ⟨k1, k2, k3, k4⟩ := tb_ahead ha hb la lb h0 hinf hi hj hw hp
  unfold stp
  simp only
  by_cases c1 : 0 < i ∧ 0 < j ∧ tb inf a b band (i - 1) (j - 1) = tb inf a b band i j - cst a b i j
  · rw [if_pos c1]
    refine ⟨i - 1, j - 1, rfl, by omega, by omega, by omega, ?_, by omega, by omega⟩
    unfold away at hw ⊢; omega
  · rw [if_neg c1]
    by_cases c2 : 0 < i ∧ tb inf a b band (i - 1) j = tb inf a b band i j - cst a b i j
    · rw [if_pos c2]
      refine ⟨i - 1, j, rfl, by omega, by omega, by omega, ?_, by omega, by omega⟩
      by_cases hf : away (i - 1) j ≤ band
      · exact hf
      · have := tb_far ha hb la lb h0 hinf (i := i - 1) (j := j) (by omega) hj (by omega); omega
    · rw [if_neg c2]
      have hj0 : 0 < j := by
        rcases Nat.eq_zero_or_pos j with h | h
        · subst h
          have hi0 : 0 < i := by omega
          rw [lbF_c inf _ hi0] at k1
          exact absurd ⟨hi0, by omega⟩ c2
        · exact h
      refine ⟨i, j - 1, rfl, by omega, by omega, by omega, ?_, by omega, by omega⟩
      by_cases hf : away i (j - 1) ≤ band
      · exact hf
      · have h9 := tb_far ha hb la lb h0 hinf (i := i) (j := j - 1) hi (by omega) (by omega)
        rcases Nat.eq_zero_or_pos i with h | h
        · subst h; rw [lbF_b inf _ hj0] at k1; omega
        · rw [lbF_d inf _ h hj0] at k1
          have d1 : tb inf a b band (i - 1) (j - 1) ≠ tb inf a b band i j - cst a b i j := fun e => c1 ⟨h, hj0, e⟩
          have d2 : tb inf a b band (i - 1) j ≠ tb inf a b band i j - cst a b i j := fun e => c2 ⟨h, e⟩
          omega
theorem stp_same {inf : Int} (hinf : 100000 ≤ inf) {i j : Nat} (hi : i < a.length) (hj : j < b.length) (hw : away i j ≤ band) (hp : ¬ (i = 0 ∧ j = 0)) :
    stp (tb inf a b band) (cst a b) (i, j) = stp (tb 100000 a b band) (cst a b) (i, j) := by
  obtain ⟨k1, k2, k3, k4⟩ := tb_ahead ha hb la lb h0 hinf hi hj hw hp
  obtain ⟨e1, _⟩ := tb_small ha hb la lb h0 hinf hi hj hw
  have key : ∀ r s, r < a.length → s < b.length → (tb inf a b band r s = tb inf a b band i j - cst a b i j ↔ tb 100000 a b band r s = tb 100000 a b band i j - cst a b i j) := by
    intro r s hr hs
    by_cases hf : away r s ≤ band
    · obtain ⟨e2, _⟩ := tb_small ha hb la lb h0 hinf hr hs hf
      rw [e1, e2]
    · have h8 := tb_far ha hb la lb h0 hinf hr hs (by omega)
      have h9 := tb_far ha hb la lb h0 (Int.le_refl 100000) hr hs (by omega)
      omega
  unfold stp
  simp only [key (i - 1) (j - 1) (by omega) (by omega), key (i - 1) j (by omega) hj]
end
/-- The path of least cost, from its end to its beginning. -/
def bkL (a b : List T3) (band : Int) : List P2 := trc (tb 100000 a b band) (cst a b) (a.length + b.length) (a.length - 1, b.length - 1)
def pthL (a b : List T3) (band : Int) : List T2 := (bkL a b band).reverse.map c2n
theorem trc_len (T C : Nat → Nat → Int) : ∀ (f : Nat) (p : P2), 1 ≤ (trc T C f p).length ∧ (trc T C f p).length ≤ f + 1
  | 0, p => by simp [trc]
  | f + 1, p => by
    rw [trc]
    split
    · simp
    · have := trc_len T C f (stp T C p); simp; omega
theorem bkL_len (a b : List T3) (band : Int) : 1 ≤ (bkL a b band).length ∧ (bkL a b band).length ≤ a.length + b.length + 1 := trc_len _ _ _ _
theorem pthL_len (a b : List T3) (band : Int) : (pthL a b band).length = (bkL a b band).length := by simp [pthL]
/-- Back so far, and what is still to come. -/
def bkI (a b : List T3) (band : Int) (l : List P2) (f i j : Nat) : Prop := l ++ (trc (tb 100000 a b band) (cst a b) f (i, j)).drop 1 = bkL a b band ∧ i + j ≤ f
theorem bkI_start (a b : List T3) (band : Int) : bkI a b band [(a.length - 1, b.length - 1)] (a.length + b.length) (a.length - 1) (b.length - 1) := by
  refine ⟨?_, by omega⟩
  rw [List.singleton_append]
  exact (trc_head _ _ _ _).symm
theorem bkI_step {a b : List T3} {band : Int} {l : List P2} {f i j i' j' : Nat} (h : bkI a b band l f i j) (hp : ¬ (i = 0 ∧ j = 0)) (hq : stp (tb 100000 a b band) (cst a b) (i, j) = (i', j')) (hlt : i' + j' < i + j) : bkI a b band (l ++ [(i', j')]) (f - 1) i' j' := by
  obtain ⟨h1, h2⟩ := h
  rw [trc_step hp h2 hq] at h1
  exact ⟨by rw [List.append_assoc]; exact h1, by omega⟩
theorem bkI_end {a b : List T3} {band : Int} {l : List P2} {f i j : Nat} (h : bkI a b band l f i j) (hp : i = 0 ∧ j = 0) : l = bkL a b band := by
  obtain ⟨h1, _⟩ := h
  rw [trc_end hp, List.append_nil] at h1
  exact h1
theorem bkI_len {a b : List T3} {band : Int} {l : List P2} {f i j : Nat} (h : bkI a b band l f i j) : l.length ≤ a.length + b.length + 1 := by
  have h1 := h.1
  have h2 := (bkL_len a b band).2
  rw [← h1, List.length_append] at h2; omega
/-- The same, from its beginning. -/
theorem rev_snoc (l : List P2) (p : P2) : (l ++ [p]).reverse.map c2n = c2n p :: l.reverse.map c2n := by simp
end Go.Proofs.Ytkldejbhhbgefaa
