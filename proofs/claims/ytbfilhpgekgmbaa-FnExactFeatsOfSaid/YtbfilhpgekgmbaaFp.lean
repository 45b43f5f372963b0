/- Plain law of FeatsOf: the places of a resampled stroke lie in its box; its features. -/
import Derived.Test.YtbfilhpgekgmbaaRs
import Derived.Test.YtbfilhpgekgmbaaNs
import Derived.Test.YtbfilhpgekgmbaaDr
import Derived.Test.YtbfilhpgekgmbaaBk
namespace Go.Proofs.Ytbfilhpgekgmbaa
set_option linter.unusedVariables false
theorem nearD_up {n d c : Int} (hd : 0 < d) (h : 0 ≤ n) (h' : n ≤ c * d) : 0 ≤ nearD n d ∧ nearD n d ≤ c := by
  have e := Int.mul_ediv_add_emod n d
  have r0 := Int.emod_nonneg n (show d ≠ 0 by omega)
  have q0 : 0 ≤ n / d := Int.ediv_nonneg h (by omega)
  have q1 : n / d ≤ c := Int.ediv_le_of_le_mul hd h'
  unfold nearD
  split
  · rename_i hr
    rcases Int.lt_or_eq_of_le q1 with h1 | h1
    · omega
    · exfalso
      rw [h1, Int.mul_comm] at e
      omega
  · omega
theorem nearD_down {n d c : Int} (hd : 0 < d) (h : n ≤ 0) (h' : -(c * d) ≤ n) : -c ≤ nearD n d ∧ nearD n d ≤ 0 := by
  have e := Int.mul_ediv_add_emod n d
  have r0 := Int.emod_nonneg n (show d ≠ 0 by omega)
  have q0 : -c ≤ n / d := by rw [Int.le_ediv_iff_mul_le hd, Int.neg_mul]; exact h'
  have q1 : n / d ≤ 0 := Int.ediv_le_of_le_mul hd (by rw [Int.zero_mul]; exact h)
  unfold nearD
  split
  · rename_i hr
    rcases Int.lt_or_eq_of_le q1 with h1 | h1
    · omega
    · exfalso
      rw [h1, Int.mul_zero] at e
      omega
  · omega
theorem mid_in {lo hi p q far all : Int} (hp0 : lo ≤ p) (hp1 : p ≤ hi) (hq0 : lo ≤ q) (hq1 : q ≤ hi) (h0 : 0 ≤ far) (h1 : far ≤ all) (h2 : 1 ≤ all) : lo ≤ p + nearD ((q - p) * far) all ∧ p + nearD ((q - p) * far) all ≤ hi := by
  rcases Int.le_total p q with h | h
  · have a0 : 0 ≤ (q - p) * far := Int.mul_nonneg (by omega) h0
    have a1 : (q - p) * far ≤ (q - p) * all := Int.mul_le_mul_of_nonneg_left h1 (by omega)
    obtain ⟨b0, b1⟩ := nearD_up (show 0 < all by omega) a0 a1
    omega
  · have a0 : 0 ≤ (p - q) * far := Int.mul_nonneg (by omega) h0
    have a1 : (p - q) * far ≤ (p - q) * all := Int.mul_le_mul_of_nonneg_left h1 (by omega)
    have e : (q - p) * far = -((p - q) * far) := by rw [← Int.neg_mul]; congr 1; omega
    rw [e]
    obtain ⟨b0, b1⟩ := nearD_down (n := -((p - q) * far)) (c := p - q) (show 0 < all by omega) (by omega) (by omega)
    omega
/-- A place in a box. -/
def spIn (p : T2) (b : T4) : Prop := (b.1 ≤ p.1 ∧ p.1 ≤ b.2.2.1) ∧ (b.2.1 ≤ p.2 ∧ p.2 ≤ b.2.2.2)
theorem mixD_in {p q : T3} {b : T4} {far all : Int} (hp : inBx p b) (hq : inBx q b) (h0 : 0 ≤ far) (h1 : far ≤ all) (h2 : 1 ≤ all) : spIn (mixD p q far all) b := by
  obtain ⟨⟨a0, a1⟩, a2, a3⟩ := hp
  obtain ⟨⟨b0, b1⟩, b2, b3⟩ := hq
  exact ⟨mid_in a0 a1 b0 b1 h0 h1 h2, mid_in a2 a3 b2 b3 h0 h1 h2⟩
theorem spotFrom_in {xs : List T3} {part parts : Int} {b : T4} (h : strokeB xs = true) (hb : ∀ (j : Nat) (p : T3), xs[j]? = some p → inBx p b) (hp1 : 1 ≤ parts) :
    ∀ m k, 1 ≤ k → k + m = xs.length → arcAt xs (k - 1) * parts ≤ arcAt xs (xs.length - 1) * part → spIn (spotFrom xs part parts m k) b
  | 0, k, hk, hl, hle => by
    obtain ⟨p, hp⟩ := strokeB_head h
    rw [spotFrom, getD_of hp]
    exact hb 0 p hp
  | m + 1, k, hk, hl, hle => by
    have ha := arc_up h (k := k) (by omega) (by omega) rfl rfl
    rw [spotFrom]
    split
    · rename_i hg
      unfold goodAt at hg
      rw [Bool.and_eq_true, Bool.not_eq_true', decide_eq_false_iff_not, decide_eq_true_eq] at hg
      have hp : xs[k - 1]? = some (xs[k - 1]'(by omega)) := List.getElem?_eq_getElem (by omega)
      have hq : xs[k]? = some (xs[k]'(by omega)) := List.getElem?_eq_getElem (by omega)
      rw [spotK_of hp hq rfl rfl rfl]
      generalize arcAt xs (xs.length - 1) * part = gl at *
      generalize arcAt xs (k - 1) = ap at *
      generalize arcAt xs k = ak at *
      have hd : 1 ≤ ak - ap := by omega
      have e : (ak - ap) * parts = ak * parts - ap * parts := Int.sub_mul _ _ _
      have e2 : 1 * 1 ≤ (ak - ap) * parts := Int.mul_le_mul hd hp1 (by omega) (by omega)
      exact mixD_in (hb _ _ hp) (hb _ _ hq) (by omega) (by omega) (by omega)
    · rename_i hg
      refine spotFrom_in h hb hp1 m (k + 1) (by omega) (by omega) ?_
      rw [Nat.add_sub_cancel]
      unfold goodAt at hg
      by_cases he : arcAt xs k = arcAt xs (k - 1)
      · rw [he]; exact hle
      · by_cases hc : arcAt xs (xs.length - 1) * part ≤ arcAt xs k * parts
        · exfalso; apply hg; rw [decide_eq_false he, decide_eq_true hc]; rfl
        · omega
theorem spotV_in {xs : List T3} {part parts : Int} {b : T4} (h : strokeB xs = true) (hb : ∀ (j : Nat) (p : T3), xs[j]? = some p → inBx p b) (hp0 : 0 ≤ part) (hp1 : 1 ≤ parts) : spIn (spotV xs part parts) b := by
  have hl := strokeB_len h
  refine spotFrom_in h hb hp1 (xs.length - 1) 1 (Nat.le_refl _) (by omega) ?_
  have h9 := (arcAt_bd h (xs.length - 1) (by omega)).1
  have h8 : 0 ≤ arcAt xs (xs.length - 1) * part := Int.mul_nonneg h9 hp0
  show arcAt xs 0 * parts ≤ _
  rw [show arcAt xs 0 = 0 from rfl, Int.zero_mul]; exact h8
theorem resN_in {xs : List T3} {m : Nat} {b : T4} (h : strokeB xs = true) (hb : ∀ (j : Nat) (p : T3), xs[j]? = some p → inBx p b) (hm : 2 ≤ m) {k : Nat} {q : T2} (hq : (resN xs m m)[k]? = some q) : spIn q b := by
  have hk : k < m := by have := (List.getElem?_eq_some_iff.1 hq).1; rwa [resN_len] at this
  simp only [resN, List.getElem?_map, List.getElem?_range hk, Option.map_some, Option.some.injEq] at hq
  rw [← hq]
  exact spotV_in h hb (by omega) (by omega)
/-- The direction behind the first k places. -/
def dirS (sp : List T2) : Nat → Int
  | 0 => 0
  | k + 1 => if k + 1 < sp.length ∧ sp.getD (k + 1) (0, 0) ≠ sp.getD k (0, 0) then dirV ((sp.getD (k + 1) (0, 0)).1 - (sp.getD k (0, 0)).1) ((sp.getD (k + 1) (0, 0)).2 - (sp.getD k (0, 0)).2) else dirS sp k
theorem dirS_last {sp : List T2} {k : Nat} (h : sp.length ≤ k + 1) : dirS sp (k + 1) = dirS sp k := by rw [dirS, if_neg (by omega)]
theorem dirS_same {sp : List T2} {k : Nat} {p q : T2} (hp : sp[k]? = some p) (hq : sp[k + 1]? = some q) (h : q = p) : dirS sp (k + 1) = dirS sp k := by rw [dirS, getD_of hp, getD_of hq, if_neg (fun h9 => h9.2 h)]
theorem dirS_new {sp : List T2} {k : Nat} {p q : T2} (hp : sp[k]? = some p) (hq : sp[k + 1]? = some q) (h : q ≠ p) : dirS sp (k + 1) = dirV (q.1 - p.1) (q.2 - p.2) := by
  rw [dirS, getD_of hp, getD_of hq, if_pos ⟨(List.getElem?_eq_some_iff.1 hq).1, h⟩]
def fsQ (sp : List T2) (b : T4) (k : Nat) : T3 := ((nrmB (sp.getD k (0, 0)) b).1, (nrmB (sp.getD k (0, 0)) b).2, dirS sp (k + 1))
def fsN (sp : List T2) (b : T4) (k : Nat) : List T3 := (List.range k).map (fsQ sp b)
theorem fsN_len (sp : List T2) (b : T4) (k : Nat) : (fsN sp b k).length = k := by simp [fsN]
theorem fsN_step (sp : List T2) (b : T4) (k : Nat) : fsN sp b (k + 1) = fsN sp b k ++ [fsQ sp b k] := by simp [fsN, List.range_succ]
theorem fsQ_of {sp : List T2} {b : T4} {k : Nat} {p : T2} {d : Int} (hp : sp[k]? = some p) (hd : dirS sp (k + 1) = d) : fsQ sp b k = ((nrmB p b).1, (nrmB p b).2, d) := by unfold fsQ; rw [getD_of hp, hd]
def fsS (m : Nat) (b : T4) (x : List T3) : List T3 := fsN (resN x m m) b m
theorem fsS_len (m : Nat) (b : T4) (x : List T3) : (fsS m b x).length = m := fsN_len _ _ _
def fsI (m : Nat) (xs : List (List T3)) (k : Nat) : List T3 := (xs.take k).flatMap (fsS m (bxI xs))
theorem fsI_step {m k : Nat} {xs : List (List T3)} {x : List T3} (h : xs[k]? = some x) : fsI m xs (k + 1) = fsI m xs k ++ fsS m (bxI xs) x := by unfold fsI; rw [take_succ_of h]; simp
theorem fsI_len {m : Nat} {xs : List (List T3)} : ∀ {k : Nat}, k ≤ xs.length → (fsI m xs k).length = k * m
  | 0, _ => by simp [fsI]
  | k + 1, h => by
    have hx : xs[k]? = some (xs[k]'(by omega)) := List.getElem?_eq_getElem (by omega)
    rw [fsI_step hx, List.length_append, fsI_len (by omega), fsS_len, Nat.succ_mul]
def foL (n : Int) (xs : List (List T3)) : List T3 := if (inkB xs && inB 2 24 n && decide (xs.length ≠ 0)) = true then fsI n.toNat xs xs.length else []
def foE (n : Int) (xs : List (List T3)) : Int := if inkB xs = true then (if inB 2 24 n = true then (if xs.length = 0 then 6 else 0) else 2) else 1
theorem fo_bad {n : Int} {xs : List (List T3)} (h : inkB xs = false) : foL n xs = [] ∧ foE n xs = 1 := by unfold foL foE; rw [h]; exact ⟨rfl, rfl⟩
theorem fo_far {n : Int} {xs : List (List T3)} (h : inkB xs = true) (h2 : inB 2 24 n = false) : foL n xs = [] ∧ foE n xs = 2 := by unfold foL foE; rw [h, h2]; exact ⟨rfl, rfl⟩
theorem fo_none {n : Int} {xs : List (List T3)} (h : inkB xs = true) (h2 : inB 2 24 n = true) (h3 : xs.length = 0) : foL n xs = [] ∧ foE n xs = 6 := by unfold foL foE; rw [h, h2, h3]; exact ⟨rfl, rfl⟩
theorem fo_ok {m : Nat} {xs : List (List T3)} (h : inkB xs = true) (h2 : inB 2 24 (m : Int) = true) (h3 : xs.length ≠ 0) : foL m xs = fsI m xs xs.length ∧ foE m xs = 0 := by
  unfold foL foE; rw [h, h2, decide_eq_true h3, if_neg h3]; exact ⟨rfl, rfl⟩
end Go.Proofs.Ytbfilhpgekgmbaa
