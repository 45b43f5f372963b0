/- Contracts of the tests on envelopes. -/
import Derived.Test.YtkldejbhhbgefaaSc
import Derived.Test.YtkldejbhhbgefaaFlInt
import Derived.Test.YtkldejbhhbgefaaPm
namespace Go.Proofs.Ytkldejbhhbgefaa
open Go.ChangeShapes Go.WideShapes Go.ChangeAt Go.RowKit
theorem quiet_of_q {P : Program} {f : FuncId} {args : Array Value} {w : World} {v : Value} (n : Nat)
    (h : Calls P f args (w.drewN n) fun e w' => e = .returned v ∧ ∃ m, w' = (w.drewN n).drewN m) : Calls P f args (w.drewN n) fun e w'' => e = .returned v ∧ ∃ m, w'' = w.drewN m :=
  h.mono fun _ _ ⟨he, m, hm⟩ => ⟨he, n + m, by rw [hm, World.drewN_drewN]⟩
def lmOk (x y : Int) : Bool := inB 0 y x && decide (y ≤ 255)
def vlB (xs ys : List Int) : Bool := (List.range xs.length).all fun k => lmOk (xs.getD k 0) (ys.getD k 0)
def bdB (xs ys : List Int) : Bool := (decide (ys.length = xs.length) && inB 1 72 xs.length) && vlB xs ys
def vlN (xs ys : List Int) (n : Int) : Bool := (decide ((xs.length : Int) = n) && decide ((ys.length : Int) = n)) && vlB xs ys
def envB (la lb lc ld : List Int) : Bool := (inB 1 72 la.length && vlN la lb la.length) && vlN lc ld la.length
theorem env_same (la lb lc ld : List Int) : ((bdB la lb && bdB lc ld) && decide ((la.length : Int) = lc.length)) = envB la lb lc ld := by
  rw [Bool.eq_iff_iff]
  unfold envB bdB vlN
  simp only [Bool.and_eq_true, decide_eq_true_eq]
  constructor
  · rintro ⟨⟨⟨⟨h1, h2⟩, h3⟩, ⟨⟨h4, h5⟩, h6⟩⟩, h7⟩
    exact ⟨⟨h2, ⟨trivial, by omega⟩, h3⟩, ⟨by omega, by omega⟩, h6⟩
  · rintro ⟨⟨h2, ⟨_, h1⟩, h3⟩, ⟨h4, h5⟩, h6⟩
    exact ⟨⟨⟨⟨by omega, h2⟩, h3⟩, ⟨⟨by omega, by rw [h4]; exact h2⟩, h6⟩⟩, by omega⟩
end Go.Proofs.Ytkldejbhhbgefaa
