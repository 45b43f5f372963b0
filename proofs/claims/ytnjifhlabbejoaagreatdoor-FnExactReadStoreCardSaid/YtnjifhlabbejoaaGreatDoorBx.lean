/- Contracts of BoxOfSpots, and of the joining of boxes. -/
import Derived.Test.YtnjifhlabbejoaaGreatDoorSc
import Derived.Test.YtnjifhlabbejoaaGreatDoorFlSpot
import Derived.Test.YtnjifhlabbejoaaGreatDoorPm
import Derived.Deep.RegionHeld3
namespace Go.Proofs.YtnjifhlabbejoaaGreatDoor
open Go.ChangeShapes Go.WideShapes Go.ChangeAt Go.RowKit
theorem Blk.set4 {w : World} {g : Nat} {t : TypeId} {a b c d : Value} (h : Blk w g t #[a, b, c, d]) (a' b' c' d' : Value) :
    Blk ((((w.setCell ⟨g, 0, none⟩ a').setCell ⟨g, 1, none⟩ b').setCell ⟨g, 2, none⟩ c').setCell ⟨g, 3, none⟩ d') g t #[a', b', c', d'] := by
  have := (((h.set_ 0 a').set_ 1 b').set_ 2 c').set_ 3 d'
  simpa using this
theorem Blk.far4 {w : World} {g : Nat} {t : TypeId} {cs : Array Value} (h : Blk w g t cs) {g' : Nat} (hg : g ≠ g') (a b c d : Value) :
    Blk ((((w.setCell ⟨g', 0, none⟩ a).setCell ⟨g', 1, none⟩ b).setCell ⟨g', 2, none⟩ c).setCell ⟨g', 3, none⟩ d) g t cs := (((h.far hg a).far hg b).far hg c).far hg d
abbrev v4 (x : T4) : Array Value := #[.int .i64 x.1, .int .i64 x.2.1, .int .i64 x.2.2.1, .int .i64 x.2.2.2]
def joinB (a b : T4) : T4 := (min a.1 b.1, min a.2.1 b.2.1, max a.2.2.1 b.2.2.1, max a.2.2.2 b.2.2.2)
def spB (p : T2) : T4 := (p.1, p.2, p.1, p.2)
def spOk (p : T2) : Bool := inB 0 4095 p.1 && inB 0 4095 p.2
def boxE (xs : List T2) : Int := if xs.all spOk = true then (if xs.length = 0 then 6 else 0) else 1
def boxFrom (xs : List T2) (b : T4) : T4 := xs.foldl (fun b p => joinB b (spB p)) b
def boxV (xs : List T2) : T4 := if xs.all spOk = true then boxFrom xs (spB (xs.getD 0 (0, 0))) else (0, 0, 0, 0)
theorem joinB_self (p : T2) : joinB (spB p) (spB p) = spB p := by unfold joinB spB; simp
theorem boxFrom_step {xs : List T2} {k : Nat} {b : T4} {p : T2} (h : xs[k]? = some p) : boxFrom (xs.take (k + 1)) b = joinB (boxFrom (xs.take k) b) (spB p) := fold_step (f := fun b p => joinB b (spB p)) h
theorem box_bad {xs : List T2} {k : Nat} {p : T2} (h : xs[k]? = some p) (hp : spOk p = false) : boxE xs = 1 ∧ boxV xs = (0, 0, 0, 0) := by
  unfold boxE boxV
  rw [all_fail h hp, if_neg (by decide), if_neg (by decide)]
  exact ⟨rfl, rfl⟩
theorem box_none {xs : List T2} (hl : xs.length = 0) (h : xs.all spOk = true) : boxE xs = 6 ∧ boxV xs = (0, 0, 0, 0) := by
  obtain rfl := List.eq_nil_of_length_eq_zero hl
  exact ⟨rfl, by first | rfl | decide⟩
theorem box_good {xs : List T2} {p : T2} {n : Nat} (hl : xs.length = n) (h : xs.all spOk = true) (hx : xs[0]? = some p) (hn : n ≠ 0) : boxE xs = 0 ∧ boxV xs = boxFrom (xs.take n) (spB p) := by
  unfold boxE boxV
  rw [if_pos h, if_pos h, if_neg (by omega), getD_of hx, List.take_of_length_le (by omega)]
  exact ⟨rfl, rfl⟩
end Go.Proofs.YtnjifhlabbejoaaGreatDoor
