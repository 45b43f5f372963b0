/- A part of a slice, read. -/
import Derived.Test.YtnjifhlabbejoaaGreatDoorPl
namespace Go.Proofs.YtnjifhlabbejoaaGreatDoor
open Go.RowKit
theorem flat_drop {α : Type} {f : α → List Value} {s : Nat} (hf : ∀ x, (f x).length = s) : ∀ (xs : List α) (a : Nat), (xs.drop a).flatMap f = (xs.flatMap f).drop (a * s)
  | [], a => by simp
  | x :: xs, 0 => by simp
  | x :: xs, a + 1 => by
    rw [List.drop_succ_cons, List.flatMap_cons, flat_drop hf xs a, Nat.succ_mul, List.drop_append, hf, List.drop_eq_nil_of_le (as := f x) (by rw [hf]; omega), List.nil_append, show a * s + s - s = a * s by omega]
theorem flat_take {α : Type} {f : α → List Value} {s : Nat} (hf : ∀ x, (f x).length = s) : ∀ (xs : List α) (a : Nat), (xs.take a).flatMap f = (xs.flatMap f).take (a * s)
  | [], a => by simp
  | x :: xs, 0 => by simp
  | x :: xs, a + 1 => by
    rw [List.take_succ_cons, List.flatMap_cons, List.flatMap_cons, flat_take hf xs a, Nat.succ_mul, List.take_append, hf, List.take_of_length_le (l := f x) (by rw [hf]; omega), show a * s + s - s = a * s by omega]
/-- xs[a : a + k], where it has an element or not. -/
theorem RdL.sub {α : Type} {f : α → List Value} {s : Nat} (hf : ∀ x, (f x).length = s) {w : World} {B b off n c : Nat} {xs : List α} (h : RdL f s w B (some ⟨b, off, none⟩) n c xs) {a k : Nat} (ha : a + k ≤ n) :
    RdL f s w B (some ⟨b, off + a * s, none⟩) k (c - a) ((xs.drop a).take k) := by
  obtain ⟨h1, h2, h3, h4, h5⟩ := h
  have hL : ((xs.drop a).take k).length = k := by simp; omega
  refine ⟨hL, by rw [flat_len hf, hL], by omega, by omega, fun hk => ?_⟩
  obtain ⟨b', off', e, hb, hc⟩ := h5 (by omega)
  cases e
  refine ⟨b, off + a * s, rfl, hb, fun j u hu => ?_⟩
  rw [flat_take hf, flat_drop hf, List.getElem?_take] at hu
  split at hu
  · rw [List.getElem?_drop] at hu
    have := hc _ u hu
    rw [show off + a * s + j = off + (a * s + j) by omega]; exact this
  · cases hu
theorem sub_at {α : Type} {xs : List α} {a k j : Nat} {x : α} (h : ((xs.drop a).take k)[j]? = some x) : xs[a + j]? = some x := by
  rw [List.getElem?_take] at h
  split at h
  · rwa [List.getElem?_drop] at h
  · cases h
end Go.Proofs.YtnjifhlabbejoaaGreatDoor
