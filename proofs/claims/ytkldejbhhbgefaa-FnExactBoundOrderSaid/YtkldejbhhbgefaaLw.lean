/- Plain law of the lower bound: what lies outside the envelopes, and the ends, cost no more than any path. -/
import Derived.Test.YtkldejbhhbgefaaEp
import Derived.Test.YtkldejbhhbgefaaEn
import Derived.Test.YtkldejbhhbgefaaTp
import Derived.Test.YtkldejbhhbgefaaEs
namespace Go.Proofs.Ytkldejbhhbgefaa
open Go.RowKit
/-- The bound. -/
def lbndV (a b : List T3) (bd : Nat) : Int := max (outV a (mnL pX b bd a.length) (mxL pX b bd a.length) (mnL pY b bd a.length) (mxL pY b bd a.length) a.length) (endsF a b)
theorem off_le {n lo hi v : Int} (h1 : lo ≤ v) (h2 : v ≤ hi) : offI n lo hi ≤ ((n - v).natAbs : Int) := by unfold offI; omega
theorem cost_ge {a b : T3} (h : featOk a = true) (h' : featOk b = true) : ((a.1 - b.1).natAbs : Int) + ((a.2.1 - b.2.1).natAbs : Int) ≤ costF a b := by
  obtain ⟨_, _, ⟨hd0, hd1⟩⟩ := featB_iff.1 (show featB a.1 a.2.1 a.2.2 = true from h)
  obtain ⟨_, _, ⟨kd0, kd1⟩⟩ := featB_iff.1 (show featB b.1 b.2.1 b.2.2 = true from h')
  unfold costF
  omega
/-- What the first k lie outside. -/
def oV (a b : List T3) (bd k : Nat) : Int := outV a (mnL pX b bd a.length) (mxL pX b bd a.length) (mnL pY b bd a.length) (mxL pY b bd a.length) k
def oK (a b : List T3) (bd k : Nat) : Int := offK a (mnL pX b bd a.length) (mxL pX b bd a.length) (mnL pY b bd a.length) (mxL pY b bd a.length) k
theorem oV_step (a b : List T3) (bd k : Nat) : oV a b bd (k + 1) = oV a b bd k + oK a b bd k := outV_step _ _ _ _ _ _
section
variable {a b : List T3} {bd : Nat} (ha : a.all featOk = true) (hb : b.all featOk = true) (la : a.length ≤ 72) (lb : b.length ≤ 72) (hm : 1 ≤ b.length) (hnm : a.length ≤ b.length + bd)
include ha hb la lb hm hnm
theorem oK_le {i j : Nat} (hi : i < a.length) (hj : j < b.length) (hw : away i j ≤ (bd : Int)) : oK a b bd i ≤ cst a b i j := by
  have e : ∀ g, (mnL g b bd a.length).getD i 0 = mnW g b (i - bd) (wMany b.length bd i) := fun g => getD_of (by simp [mnL, hi])
  have e' : ∀ g, (mxL g b bd a.length).getD i 0 = mxW g b (i - bd) (wMany b.length bd i) := fun g => getD_of (by simp [mxL, hi])
  have hk : j - (i - bd) < wMany b.length bd i := by unfold wMany; unfold away at hw; omega
  have hjj : i - bd + (j - (i - bd)) = j := by unfold away at hw; omega
  have m1 := mnW_le (g := pX) (xs := b) (a := i - bd) hk
  have m2 := mxW_ge (g := pX) (xs := b) (a := i - bd) hk
  have m3 := mnW_le (g := pY) (xs := b) (a := i - bd) hk
  have m4 := mxW_ge (g := pY) (xs := b) (a := i - bd) hk
  rw [hjj] at m1 m2 m3 m4
  have ea : a[i]? = some (a[i]'hi) := List.getElem?_eq_getElem hi
  have eb : b[j]? = some (b[j]'hj) := List.getElem?_eq_getElem hj
  unfold oK offK cst
  rw [e, e', e, e']
  rw [getD_of ea]
  rw [getD_of eb] at m1 m2 m3 m4 ⊢
  have h1 := off_le (n := (a[i]'hi).1) m1 m2
  have h2 := off_le (n := (a[i]'hi).2.1) m3 m4
  have h3 := cost_ge (all_at (p := featOk) ha ea) (all_at (p := featOk) hb eb)
  unfold pX at h1 m1 m2
  unfold pY at h2 m3 m4
  unfold pX pY
  omega
theorem oV_bd : ∀ {k : Nat}, k ≤ a.length → oV a b bd k ≤ 574 * (k : Int)
  | 0, _ => by unfold oV outV; simp
  | k + 1, h => by
    have h1 := oV_bd (show k ≤ a.length by omega)
    have hj : min k (b.length - 1) < b.length := by omega
    have h2 := oK_le (bd := bd) ha hb la lb hm hnm (i := k) (j := min k (b.length - 1)) (by omega) hj (by unfold away; omega)
    have h3 := cst_bd ha hb (i := k) (by omega) hj
    rw [oV_step]; omega
theorem oV_tb : ∀ (s i j : Nat), i + j = s → i < a.length → j < b.length → oV a b bd (i + 1) ≤ tb 100000 a b (bd : Int) i j ∧ cst a b 0 0 ≤ tb 100000 a b (bd : Int) i j := by
  intro s
  induction s using Nat.strongRecOn with
  | _ s ih =>
    intro i j hs hi hj
    have h0 := oV_bd (bd := bd) ha hb la lb hm hnm (k := i + 1) (by omega)
    have c00 := cst_bd ha hb (i := 0) (j := 0) (by omega) (by omega)
    by_cases hw : away i j ≤ (bd : Int)
    · have hk := oK_le (bd := bd) ha hb la lb hm hnm hi hj hw
      have hc := cst_bd ha hb hi hj
      by_cases hp : i = 0 ∧ j = 0
      · obtain ⟨rfl, rfl⟩ := hp
        have e : tb 100000 a b (bd : Int) 0 0 = cst a b 0 0 := by
          rw [tb_eq]
          have e : ahead 100000 (tb 100000 a b (bd : Int)) 0 0 = 0 := rfl
          rw [e]; unfold fin; rw [if_neg (by omega)]; simp
        rw [e, oV_step]
        have z : oV a b bd 0 = 0 := rfl
        omega
      · obtain ⟨k1, _, _, _⟩ := tb_ahead (inf := 100000) (band := (bd : Int)) ha hb la lb (by omega) (by omega) hi hj hw hp
        rw [oV_step] at h0 ⊢
        match i, j, hs, hi, hj, hp, k1, hk, hc, h0 with
        | 0, j + 1, hs, hi, hj, hp, k1, hk, hc, h0 =>
          obtain ⟨p1, p2⟩ := ih j (by omega) 0 j (by omega) hi (by omega)
          rw [oV_step] at p1
          simp only [lbF] at k1; omega
        | i + 1, 0, hs, hi, hj, hp, k1, hk, hc, h0 =>
          obtain ⟨p1, p2⟩ := ih i (by omega) i 0 (by omega) (by omega) hj
          simp only [lbF] at k1; omega
        | i + 1, j + 1, hs, hi, hj, hp, k1, hk, hc, h0 =>
          obtain ⟨p1, p2⟩ := ih (i + j) (by omega) i j (by omega) (by omega) (by omega)
          obtain ⟨q1, q2⟩ := ih (i + (j + 1)) (by omega) i (j + 1) (by omega) (by omega) hj
          obtain ⟨r1, r2⟩ := ih (i + 1 + j) (by omega) (i + 1) j (by omega) hi (by omega)
          rw [oV_step] at r1
          simp only [lbF] at k1; omega
    · have e := tb_far (inf := 100000) (band := (bd : Int)) ha hb la lb (by omega) (by omega) hi hj (by omega)
      rw [e]; omega
end
theorem lbnd_le {a b : List T3} {bd : Nat} (hx : featsOk 72 a = true) (hy : featsOk 72 b = true) (hw : bandOk a.length b.length (bd : Int) = true) : lbndV a b bd ≤ elV a b (bd : Int) := by
  obtain ⟨ha, a1, a2⟩ := featsOk_bd hx
  obtain ⟨hb, b1, b2⟩ := featsOk_bd hy
  obtain ⟨⟨w0, w1⟩, w2⟩ := bandOk_iff.1 hw
  obtain ⟨p1, p2⟩ := oV_tb (bd := bd) ha hb (by omega) (by omega) (by omega) (by omega) _ (a.length - 1) (b.length - 1) rfl (by omega) (by omega)
  rw [show a.length - 1 + 1 = a.length by omega] at p1
  have haw : away (a.length - 1) (b.length - 1) ≤ (bd : Int) := by unfold away; omega
  have e0 : f0 a = a.getD 0 (0, 0, 0) := by
    have h : a[0]? = some (a[0]'(by omega)) := List.getElem?_eq_getElem (by omega)
    rw [f0_of h, getD_of h]
  have e1 : f0 b = b.getD 0 (0, 0, 0) := by
    have h : b[0]? = some (b[0]'(by omega)) := List.getElem?_eq_getElem (by omega)
    rw [f0_of h, getD_of h]
  have e2 : fl a = a.getD (a.length - 1) (0, 0, 0) := by
    have h : a[a.length - 1]? = some (a[a.length - 1]'(by omega)) := List.getElem?_eq_getElem (by omega)
    rw [fl_of rfl h, getD_of h]
  have e3 : fl b = b.getD (b.length - 1) (0, 0, 0) := by
    have h : b[b.length - 1]? = some (b[b.length - 1]'(by omega)) := List.getElem?_eq_getElem (by omega)
    rw [fl_of rfl h, getD_of h]
  have hends : endsF a b ≤ elV a b (bd : Int) := by
    unfold endsF
    rw [e0, e1, e2, e3]
    have d0 : costF (a.getD 0 (0, 0, 0)) (b.getD 0 (0, 0, 0)) = cst a b 0 0 := rfl
    have d1 : costF (a.getD (a.length - 1) (0, 0, 0)) (b.getD (b.length - 1) (0, 0, 0)) = cst a b (a.length - 1) (b.length - 1) := rfl
    rw [d0, d1]
    split
    · rename_i hc
      obtain ⟨k1, _, _, _⟩ := tb_ahead (inf := 100000) (band := (bd : Int)) ha hb (by omega) (by omega) (by omega) (by omega) (i := a.length - 1) (j := b.length - 1) (by omega) (by omega) haw (by omega)
      have key : cst a b 0 0 ≤ lbF 100000 (tb 100000 a b (bd : Int)) (a.length - 1) (b.length - 1) := by
        have c00 := cst_bd ha hb (i := 0) (j := 0) (by omega) (by omega)
        have h := fun i j (hi : i < a.length) (hj : j < b.length) => (oV_tb (bd := bd) ha hb (by omega) (by omega) (by omega) (by omega) _ i j rfl hi hj).2
        have hi : a.length - 1 < a.length := by omega
        have hj : b.length - 1 < b.length := by omega
        generalize a.length - 1 = i at *
        generalize b.length - 1 = j at *
        match i, j, hi, hj with
        | 0, 0, _, _ => simp only [lbF]; omega
        | 0, j + 1, hi, hj => have := h 0 j hi (by omega); simp only [lbF]; omega
        | i + 1, 0, hi, hj => have := h i 0 (by omega) hj; simp only [lbF]; omega
        | i + 1, j + 1, hi, hj =>
          have q1 := h i j (by omega) (by omega)
          have q2 := h i (j + 1) (by omega) hj
          have q3 := h (i + 1) j hi (by omega)
          simp only [lbF]; omega
      unfold elV; omega
    · unfold elV; omega
  unfold lbndV
  have : outV a (mnL pX b bd a.length) (mxL pX b bd a.length) (mnL pY b bd a.length) (mxL pY b bd a.length) a.length = oV a b bd a.length := rfl
  rw [this]
  unfold elV at *
  omega
end Go.Proofs.Ytkldejbhhbgefaa
