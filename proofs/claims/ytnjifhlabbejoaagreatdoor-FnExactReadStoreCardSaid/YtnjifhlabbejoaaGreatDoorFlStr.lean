/- Slices of strings in the laws: measured, made, compared, marked, read back. -/
import Derived.Test.YtnjifhlabbejoaaGreatDoorTl
import Derived.Test.YtnjifhlabbejoaaGreatDoorTx
import Derived.Test.YtnjifhlabbejoaaGreatDoorFe
import Derived.IntWalk
import Derived.Deep.RegionHeld3
import Derived.Deep.QuietTactic
import Derived.BigQuiet
namespace Go.Proofs.YtnjifhlabbejoaaGreatDoor
open Go.ChangeShapes Go.WideShapes Go.ChangeAt Go.RowKit Go.Deep Go.Joins
set_option linter.unusedVariables false
set_option linter.unusedSimpArgs false
theorem oneS1 (x : ByteArray) : ∀ u ∈ cs1 x, u.oneCell' = true := by intro u hu; simp [cs1] at hu; subst hu; rfl
theorem RdL.atS {w : World} {B n c : Nat} {A : Option Addr} {xs : List ByteArray} (h : RdL cs1 1 w B A n c xs) {k : Nat} (hk : k < n) :
    ∃ b off x, A = some ⟨b, off, none⟩ ∧ b < B ∧ Hid (xs[k]? = some x) ∧ w.cell? ⟨b, off + k, none⟩ = some (.string x) := by
  obtain ⟨b, off, x, e, hb, hx, hc⟩ := RdL.at_ (f := cs1) (s := 1) (fun _ => rfl) h hk
  exact ⟨b, off, x, e, hb, hx, by have := hc 0 (.string x) (by decide) rfl; simpa using this⟩
def totS (xs : List ByteArray) : Nat := xs.length + (xs.map ByteArray.size).sum
def preS (xs : List ByteArray) (k : Nat) : Nat := ((xs.take k).map ByteArray.size).sum
theorem preS_step {xs : List ByteArray} {k : Nat} {x : ByteArray} (h : xs[k]? = some x) : preS xs (k + 1) = preS xs k + x.size := by
  unfold preS; rw [take_succ_of h]; simp
theorem preS_all {xs : List ByteArray} {k : Nat} (h : xs.length ≤ k) : preS xs k = (xs.map ByteArray.size).sum := by unfold preS; rw [List.take_of_length_le h]
theorem preS_le (xs : List ByteArray) (k : Nat) : preS xs k ≤ (xs.map ByteArray.size).sum := by
  unfold preS
  have h : xs.map ByteArray.size = (xs.take k).map ByteArray.size ++ (xs.drop k).map ByteArray.size := by rw [← List.map_append, List.take_append_drop]
  rw [h, List.sum_append]; omega
theorem totS_at {xs : List ByteArray} {k : Nat} {x : ByteArray} (h : xs[k]? = some x) : xs.length + preS xs k + x.size ≤ totS xs := by
  have h1 := preS_le xs (k + 1); rw [preS_step h] at h1; unfold totS; omega
theorem preS_zero (xs : List ByteArray) : preS xs 0 = 0 := rfl
theorem totS_len (xs : List ByteArray) : xs.length ≤ totS xs := by unfold totS; omega
def szS (xs : List ByteArray) (left : Int) : Int := if (totS xs : Int) ≤ left then left - totS xs else -1
theorem szS_yes {xs : List ByteArray} {left : Int} (h : (totS xs : Int) ≤ left) : szS xs left = left - totS xs := if_pos h
theorem szS_no {xs : List ByteArray} {left : Int} (h : left < totS xs) : szS xs left = -1 := if_neg (by omega)
def markS (k : Int) (n : Nat) : List ByteArray := (List.range n).map (fun i : Nat => mtx (k + i).toNat)
theorem markS_len (k : Int) (n : Nat) : (markS k n).length = n := by simp [markS]
theorem markS_succ (k : Int) (n : Nat) : markS k (n + 1) = markS k n ++ [mtx (k + n).toNat] := by simp [markS, List.range_succ]
theorem markS_at {k : Int} {n i : Nat} {x : ByteArray} (h : (markS k n)[i]? = some x) : x = mtx (k + i).toNat := by
  simp only [markS, List.getElem?_map, Option.map_eq_some_iff] at h
  obtain ⟨j, hj, rfl⟩ := h
  obtain ⟨_, rfl⟩ := List.getElem?_eq_some_iff.1 hj
  simp
theorem markTextI_any (k : Int) (w : World) (h0 : 0 < k) (h1 : k ≤ 1099511627776) : Calls Tryz.prog 39 #[.int .i64 k] w fun e w' => e = .returned (.string (mtx k.toNat)) ∧ Below w.heap.size w w' := by
  obtain ⟨m, rfl⟩ := Int.eq_ofNat_of_zero_le (Int.le_of_lt h0)
  exact markText_any m w (by omega) (by omega)
theorem grown_below {a w w' : World} {row : Option Nat} (h : a.grownBy w row) (hb : Below w.heap.size w w') : a.grownBy w' row :=
  ⟨hb.os.trans h.os, hb.tape.trans h.tape, hb.output.trans h.output, Nat.le_trans h.size hb.size, fun i hi hne => (hb.block i (Nat.lt_of_lt_of_le hi h.size)).trans (h.block i hi hne)⟩
end Go.Proofs.YtnjifhlabbejoaaGreatDoor
