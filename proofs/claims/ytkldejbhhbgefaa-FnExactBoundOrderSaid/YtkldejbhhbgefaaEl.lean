/- Plain law of the table of elastic matching: the least costs of paths within a band, whatever number stands for 'no path'. -/
import Derived.Test.YtkldejbhhbgefaaMk
namespace Go.Proofs.Ytkldejbhhbgefaa
open Go.RowKit
def cst (a b : List T3) (i j : Nat) : Int := costF (a.getD i (0, 0, 0)) (b.getD j (0, 0, 0))
def away (i j : Nat) : Int := (((i : Int) - j).natAbs : Int)
/-- What is stored at a place, given the least cost ahead of it. -/
def fin (inf : Int) (a b : List T3) (band : Int) (i j : Nat) (best : Int) : Int := if inf ≤ best ∨ band < away i j then inf else best + cst a b i j
/-- The least cost ahead of a place, from a table. -/
def lbF (inf : Int) (F : Nat → Nat → Int) : Nat → Nat → Int
  | 0, 0 => inf
  | 0, j + 1 => min inf (F 0 j)
  | i + 1, 0 => min inf (F i 0)
  | i + 1, j + 1 => min (min (min inf (F i j)) (F i (j + 1))) (F (i + 1) j)
def tb (inf : Int) (a b : List T3) (band : Int) : Nat → Nat → Int
  | 0, 0 => fin inf a b band 0 0 0
  | 0, j + 1 => fin inf a b band 0 (j + 1) (min inf (tb inf a b band 0 j))
  | i + 1, 0 => fin inf a b band (i + 1) 0 (min inf (tb inf a b band i 0))
  | i + 1, j + 1 => fin inf a b band (i + 1) (j + 1) (min (min (min inf (tb inf a b band i j)) (tb inf a b band i (j + 1))) (tb inf a b band (i + 1) j))
termination_by i j => (i, j)
def ahead (inf : Int) (F : Nat → Nat → Int) (i j : Nat) : Int := if i = 0 ∧ j = 0 then 0 else lbF inf F i j
theorem tb_eq (inf : Int) (a b : List T3) (band : Int) (i j : Nat) : tb inf a b band i j = fin inf a b band i j (ahead inf (tb inf a b band) i j) := by
  unfold ahead
  match i, j with
  | 0, 0 => rw [tb, if_pos ⟨rfl, rfl⟩]
  | 0, j + 1 => rw [tb, if_neg (by omega)]; rfl
  | i + 1, 0 => rw [tb, if_neg (by omega)]; rfl
  | i + 1, j + 1 => rw [tb, if_neg (by omega)]; rfl
theorem lbF_cong {inf : Int} {F G : Nat → Nat → Int} {i j : Nat} (h : ∀ r s, (r < i ∧ s ≤ j) ∨ (r = i ∧ s < j) → F r s = G r s) : lbF inf F i j = lbF inf G i j := by
  match i, j with
  | 0, 0 => rfl
  | 0, j + 1 => simp only [lbF]; rw [h 0 j (by omega)]
  | i + 1, 0 => simp only [lbF]; rw [h i 0 (by omega)]
  | i + 1, j + 1 => simp only [lbF]; rw [h i j (by omega), h i (j + 1) (by omega), h (i + 1) j (by omega)]
theorem lbF_le (inf : Int) (F : Nat → Nat → Int) (i j : Nat) : lbF inf F i j ≤ inf := by
  match i, j with
  | 0, 0 => exact Int.le_refl _
  | 0, j + 1 => simp only [lbF]; omega
  | i + 1, 0 => simp only [lbF]; omega
  | i + 1, j + 1 => simp only [lbF]; omega
theorem costF_bd {a b : T3} (h : featOk a = true) (h' : featOk b = true) : 0 ≤ costF a b ∧ costF a b ≤ 574 := by
  obtain ⟨⟨hx0, hx1⟩, ⟨hy0, hy1⟩, ⟨hd0, hd1⟩⟩ := featB_iff.1 (show featB a.1 a.2.1 a.2.2 = true from h)
  obtain ⟨⟨kx0, kx1⟩, ⟨ky0, ky1⟩, ⟨kd0, kd1⟩⟩ := featB_iff.1 (show featB b.1 b.2.1 b.2.2 = true from h')
  unfold costF
  omega
theorem cst_bd {a b : List T3} {i j : Nat} (ha : a.all featOk = true) (hb : b.all featOk = true) (hi : i < a.length) (hj : j < b.length) : 0 ≤ cst a b i j ∧ cst a b i j ≤ 574 := by
  unfold cst
  rw [List.getD_eq_getElem?_getD, List.getD_eq_getElem?_getD, List.getElem?_eq_getElem hi, List.getElem?_eq_getElem hj]
  exact costF_bd (all_at (p := featOk) ha (List.getElem?_eq_getElem hi)) (all_at (p := featOk) hb (List.getElem?_eq_getElem hj))
/-- Inside the band the number for 'no path' does not matter; outside it is what is stored. -/
theorem tb_in {a b : List T3} {band : Int} (ha : a.all featOk = true) (hb : b.all featOk = true) (la : a.length ≤ 72) (lb : b.length ≤ 72) (h0 : 0 ≤ band) :
    ∀ (s i j : Nat), i + j = s → i < a.length → j < b.length →
      (∀ inf : Int, 100000 ≤ inf → (away i j ≤ band → tb inf a b band i j = tb 100000 a b band i j) ∧ (band < away i j → tb inf a b band i j = inf)) ∧
      (away i j ≤ band → 0 ≤ tb 100000 a b band i j ∧ tb 100000 a b band i j ≤ 574 * (s + 1)) := by
  intro s
  induction s using Nat.strongRecOn with
  | _ s ih =>
    intro i j hs hi hj
    have hc := cst_bd ha hb hi hj
    have key : away i j ≤ band → ∀ inf : Int, 100000 ≤ inf → ahead inf (tb inf a b band) i j = ahead 100000 (tb 100000 a b band) i j ∧ 0 ≤ ahead 100000 (tb 100000 a b band) i j ∧ ahead 100000 (tb 100000 a b band) i j ≤ 574 * s := by
      intro hw inf hinf
      unfold ahead
      match i, j, hs, hi, hj, hw with
      | 0, 0, hs, hi, hj, hw => rw [if_pos ⟨rfl, rfl⟩, if_pos ⟨rfl, rfl⟩]; omega
      | 0, j + 1, hs, hi, hj, hw =>
        rw [if_neg (by omega), if_neg (by omega)]
        simp only [lbF]
        obtain ⟨p1, p2⟩ := ih j (by omega) 0 j (by omega) hi (by omega)
        have hw' : away 0 j ≤ band := by unfold away at hw ⊢; omega
        have q1 := (p1 inf hinf).1 hw'
        have q2 := p2 hw'
        rw [q1]; omega
      | i + 1, 0, hs, hi, hj, hw =>
        rw [if_neg (by omega), if_neg (by omega)]
        simp only [lbF]
        obtain ⟨p1, p2⟩ := ih i (by omega) i 0 (by omega) (by omega) hj
        have hw' : away i 0 ≤ band := by unfold away at hw ⊢; omega
        have q1 := (p1 inf hinf).1 hw'
        have q2 := p2 hw'
        rw [q1]; omega
      | i + 1, j + 1, hs, hi, hj, hw =>
        rw [if_neg (by omega), if_neg (by omega)]
        simp only [lbF]
        obtain ⟨p1, p2⟩ := ih (i + j) (by omega) i j (by omega) (by omega) (by omega)
        have hw' : away i j ≤ band := by unfold away at hw ⊢; omega
        have q1 := (p1 inf hinf).1 hw'
        have q2 := p2 hw'
        obtain ⟨r1, r2⟩ := ih (i + (j + 1)) (by omega) i (j + 1) (by omega) (by omega) hj
        obtain ⟨t1, t2⟩ := ih (i + 1 + j) (by omega) (i + 1) j (by omega) hi (by omega)
        have r3 := (r1 inf hinf).1
        have r4 := (r1 inf hinf).2
        have r5 := (r1 100000 (by omega)).2
        have t3 := (t1 inf hinf).1
        have t4 := (t1 inf hinf).2
        have t5 := (t1 100000 (by omega)).2
        rw [q1]
        by_cases hr : away i (j + 1) ≤ band <;> by_cases ht : away (i + 1) j ≤ band
        · rw [r3 hr, t3 ht]; have := r2 hr; have := t2 ht; omega
        · rw [r3 hr, t4 (by omega), t5 (by omega)]; have := r2 hr; omega
        · rw [r4 (by omega), t3 ht, r5 (by omega)]; have := t2 ht; omega
        · rw [r4 (by omega), t4 (by omega), r5 (by omega), t5 (by omega)]; omega
    have hs72 : s ≤ 142 := by omega
    refine ⟨fun inf hinf => ⟨fun hw => ?_, fun hw => ?_⟩, fun hw => ?_⟩
    · obtain ⟨k1, k2, k3⟩ := key hw inf hinf
      rw [tb_eq, tb_eq 100000, k1]
      unfold fin
      rw [if_neg (by omega), if_neg (by omega)]
    · rw [tb_eq]; unfold fin; rw [if_pos (.inr hw)]
    · obtain ⟨k1, k2, k3⟩ := key hw 100000 (by omega)
      rw [tb_eq]; unfold fin; rw [if_neg (by omega)]; omega
/-- The least cost of matching two sequences. -/
def elV (a b : List T3) (band : Int) : Int := tb 100000 a b band (a.length - 1) (b.length - 1)
def bandOk (n m : Nat) (band : Int) : Bool := inB 0 72 band && decide (away n m ≤ band)
theorem away_last {n m : Nat} (hn : 0 < n) (hm : 0 < m) : away (n - 1) (m - 1) = away n m := by unfold away; omega
theorem elV_of {a b : List T3} {band inf : Int} (ha : featsOk 72 a = true) (hb : featsOk 72 b = true) (hw : bandOk a.length b.length band = true) (hinf : 100000 ≤ inf) :
    tb inf a b band (a.length - 1) (b.length - 1) = elV a b band := by
  obtain ⟨ha1, ha2⟩ := Bool.and_eq_true_iff.1 ha
  obtain ⟨hb1, hb2⟩ := Bool.and_eq_true_iff.1 hb
  have ia := inB_iff.1 ha2
  have ib := inB_iff.1 hb2
  unfold bandOk at hw
  simp only [Bool.and_eq_true, inB_iff, decide_eq_true_eq] at hw
  obtain ⟨⟨w0, w1⟩, w2⟩ := hw
  exact ((tb_in ha1 hb1 (by omega) (by omega) w0 _ _ _ rfl (by omega) (by omega)).1 inf hinf).1 (by rw [away_last (by omega) (by omega)]; exact w2)
theorem tb_range {a b : List T3} {band inf : Int} (ha : a.all featOk = true) (hb : b.all featOk = true) (la : a.length ≤ 72) (lb : b.length ≤ 72) (h0 : 0 ≤ band) (hinf : 100000 ≤ inf) {i j : Nat} (hi : i < a.length) (hj : j < b.length) :
    0 ≤ tb inf a b band i j ∧ tb inf a b band i j ≤ inf ∧ (tb inf a b band i j < inf → tb inf a b band i j ≤ 82656) := by
  obtain ⟨p1, p2⟩ := tb_in ha hb la lb h0 _ i j rfl hi hj
  by_cases hw : away i j ≤ band
  · rw [(p1 inf hinf).1 hw]; have := p2 hw; omega
  · rw [(p1 inf hinf).2 (by omega)]; omega
end Go.Proofs.Ytkldejbhhbgefaa
