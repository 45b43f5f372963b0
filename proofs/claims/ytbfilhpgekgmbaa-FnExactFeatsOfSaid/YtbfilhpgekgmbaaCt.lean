/- CenterOf. -/
import Derived.Test.YtbfilhpgekgmbaaIk
namespace Go.Proofs.Ytbfilhpgekgmbaa
open Go.ChangeShapes Go.WideShapes Go.ChangeAt Go.RowKit
def psum (f : T3 → Int) (x : List T3) (k : Nat) : Int := ((x.take k).map f).sum
def isum (f : T3 → Int) (xs : List (List T3)) (k : Nat) : Int := ((xs.take k).map fun x => psum f x x.length).sum
theorem psum_zero (f : T3 → Int) (x : List T3) : psum f x 0 = 0 := rfl
theorem isum_zero (f : T3 → Int) (xs : List (List T3)) : isum f xs 0 = 0 := rfl
theorem psum_step {f : T3 → Int} {x : List T3} {k : Nat} {p : T3} (h : x[k]? = some p) : psum f x (k + 1) = psum f x k + f p := by unfold psum; rw [take_succ_of h]; simp
theorem isum_step {f : T3 → Int} {xs : List (List T3)} {k : Nat} {x : List T3} (h : xs[k]? = some x) : isum f xs (k + 1) = isum f xs k + psum f x x.length := by unfold isum; rw [take_succ_of h]; simp
theorem psum_bd {f : T3 → Int} {x : List T3} (h : ∀ p ∈ x, 0 ≤ f p ∧ f p ≤ 4095) : ∀ k, k ≤ x.length → 0 ≤ psum f x k ∧ psum f x k ≤ 4095 * k
  | 0, _ => by rw [psum_zero]; simp
  | k + 1, hk => by
    obtain ⟨h1, h2⟩ := psum_bd h k (by omega)
    have hx : x[k]? = some (x[k]'(by omega)) := List.getElem?_eq_getElem (by omega)
    have := h _ (List.mem_of_getElem? hx)
    rw [psum_step hx]; omega
theorem pt_bd {x : List T3} (h : strokeB x = true) : (∀ p ∈ x, 0 ≤ p.1 ∧ p.1 ≤ 4095) ∧ (∀ p ∈ x, 0 ≤ p.2.1 ∧ p.2.1 ≤ 4095) := by
  refine ⟨fun p hp => ?_, fun p hp => ?_⟩ <;>
    (obtain ⟨k, hk, rfl⟩ := List.mem_iff_getElem.1 hp
     have h1 := strokeB_at h (List.getElem?_eq_getElem hk)
     generalize x[k]'hk = p at *
     obtain ⟨a, b, t⟩ := p
     obtain ⟨⟨h1, h2⟩, ⟨h3, h4⟩, _, _⟩ := ptOk_iff.1 h1
     exact ⟨by assumption, by assumption⟩)
theorem isum_bd {f : T3 → Int} {xs : List (List T3)} (hi : inkB xs = true) (h : ∀ x, strokeB x = true → ∀ p ∈ x, 0 ≤ f p ∧ f p ≤ 4095) : ∀ k, k ≤ xs.length → 0 ≤ isum f xs k ∧ isum f xs k ≤ 245700 * k
  | 0, _ => by rw [isum_zero]; simp
  | k + 1, hk => by
    obtain ⟨h1, h2⟩ := isum_bd hi h k (by omega)
    have hx : xs[k]? = some (xs[k]'(by omega)) := List.getElem?_eq_getElem (by omega)
    have hs := inkB_at hi hx
    have h3 := psum_bd (h _ hs) _ (Nat.le_refl _)
    have h4 := strokeB_len hs
    rw [isum_step hx]; omega
theorem cnt_bd {xs : List (List T3)} (hi : inkB xs = true) : ∀ k, k ≤ xs.length → k ≤ preL xs k ∧ preL xs k ≤ 60 * k
  | 0, _ => by rw [preL_zero]; omega
  | k + 1, hk => by
    obtain ⟨h1, h2⟩ := cnt_bd hi k (by omega)
    have hx : xs[k]? = some (xs[k]'(by omega)) := List.getElem?_eq_getElem (by omega)
    have h4 := strokeB_len (inkB_at hi hx)
    rw [preL_step hx]; omega
def pX (p : T3) : Int := p.1
def pY (p : T3) : Int := p.2.1
def cntV (xs : List (List T3)) : Int := if inkB xs = true then (preL xs xs.length : Int) else 0
def ctE (xs : List (List T3)) : Int := if inkB xs = true then (if xs.length = 0 then 6 else 0) else 1
def ctV (xs : List (List T3)) : T2 := if inkB xs = true ∧ xs.length ≠ 0 then (nearD (isum pX xs xs.length) (preL xs xs.length), nearD (isum pY xs xs.length) (preL xs xs.length)) else (0, 0)
theorem ct_bad {xs : List (List T3)} (h : inkB xs = false) : ctV xs = (0, 0) ∧ ctE xs = 1 := by unfold ctV ctE; rw [h]; exact ⟨rfl, rfl⟩
theorem ct_none {xs : List (List T3)} (h : inkB xs = true) (h2 : xs.length = 0) : ctV xs = (0, 0) ∧ ctE xs = 6 := by unfold ctV ctE; rw [h, h2]; exact ⟨rfl, rfl⟩
theorem ct_ok {xs : List (List T3)} (h : inkB xs = true) (h2 : xs.length ≠ 0) : ctV xs = (nearD (isum pX xs xs.length) (preL xs xs.length), nearD (isum pY xs xs.length) (preL xs xs.length)) ∧ ctE xs = 0 := by unfold ctV ctE; rw [h, if_pos ⟨rfl, h2⟩, if_pos rfl, if_neg h2]; exact ⟨rfl, rfl⟩
end Go.Proofs.Ytbfilhpgekgmbaa
