/- Stores in the laws: measured, made, compared. -/
import Derived.Test.YtnjifhlabbejoaaGreatDoorTl
import Derived.Test.YtnjifhlabbejoaaGreatDoorMk
import Derived.Test.YtnjifhlabbejoaaGreatDoorBx
import Derived.Deep.RegionHeld3
import Derived.IntWalk
namespace Go.Proofs.YtnjifhlabbejoaaGreatDoor
open Go.ChangeShapes Go.WideShapes Go.ChangeAt Go.RowKit
set_option linter.unusedVariables false
set_option linter.unusedSimpArgs false
theorem eqTemplate_yes (s : ByteArray) (A A' : Option Addr) (n c n' c' : Nat) (xs : List T3) (w : World) (hr : RdL c3 3 w w.heap.size A n c xs) (hr' : RdL c3 3 w w.heap.size A' n' c' xs) (hn : n ≤ 1048576) :
    Calls Tryz.prog 38 #[.agg #[.string s, .slice A n c], .agg #[.string s, .slice A' n' c']] w fun e w' => e = .returned (.bool true) ∧ Below w.heap.size w w' := by
  have hB : Below w.heap.size w ((w.alloc (.cells #[.string s, .slice A n c] 42)).alloc (.cells #[.string s, .slice A' n' c'] 42)) := (by repeat (first | exact Below.refl _ _ | assumption | refine Below.drew ?_ | refine below_drewN ?_ _ | refine Below.alloc ?_ (by first | omega | (simp <;> omega)) _ | refine Below.setCell ?_ (by first | omega | (simp <;> omega)) _))
  go_enter Tryz.func38, Tryz.ntmps38
  go_wp2_with fail
  with_reducible refine (eqFeatS_yes _ _ _ _ _ _ xs _ (hr.on hB) (hr'.on hB) hn).mono ?_
  rintro e w1 ⟨rfl, hbw1⟩
  go_wp2
  go_ret
  exact ⟨rfl, below_on hbw1 hB⟩
set_option maxHeartbeats 4000000 in
theorem eqTemplateS_yes (A A2 : Option Addr) (n c n2 c2 : Nat) (xs : List TV) (w : World) (hr : TL w w.heap.size A n c xs) (hr' : TL w w.heap.size A2 n2 c2 xs) (hn : totT xs ≤ 1048576) :
    Calls Tryz.prog 17 #[.slice A n c, .slice A2 n2 c2] w fun e w' => e = .returned (.bool true) ∧ Below w.heap.size w w' := by
  have hl := Lib.hid hr.len
  have hnn : n2 = n := by rw [← hr.len, ← hr'.len]
  subst hnn
  have hcap : n2 ≤ 9223372036854775807 := Nat.le_trans hr.cap hr.capm
  go_enter Tryz.func17, Tryz.ntmps17
  go_wp2_with fail
  go_loopw [5] (fun i wr => ∃ k : Nat, k ≤ n2 ∧ i = .int .i64 k ∧ Below w.heap.size w wr) (fun i _ => n2 - (intOf i).toNat)
  case atStart => exact ⟨0, by omega, rfl, Below.refl _ _⟩
  case round =>
    obtain ⟨k, hk, rfl, hb⟩ := hrel
    by_cases hlt : k < n2
    · obtain ⟨b, off, s, A', n', c', x, rfl, hbl, hx, q0, q1, hx3⟩ := (hr.on hb).at_ hlt
      obtain ⟨b2, off2, s2, B', m', d', x', rfl, hbl2, hx', p0, p1, hx4⟩ := (hr'.on hb).at_ hlt
      have hxx : (s2, x') = (s, x) := by have h1 := hx.out; rw [hx'.out] at h1; exact Option.some.inj h1
      cases hxx
      have i1 : (k : Int) < (n2 : Int) := by omega
      have i2 : (0 : Int) ≤ (k : Int) := by omega
      have hxn : n' ≤ 1048576 := by have h := (totT_mem hx.out hn).2; rw [hx3.len] at h; omega
      have hsz := hb.size
      have HX3 := Lib.hid hx3
      have HX4 := Lib.hid hx4
      clear hr hr' hx3 hx4
      go_wp2_with fail
      go_region_held3 (fun w' => (∀ b o, b < wr.heap.size → w'.cell? ⟨b, o, none⟩ = wr.cell? ⟨b, o, none⟩) ∧ Below wr.heap.size wr w') (first | exact sk (Below.refl _ _).drew | (go_split_ands; exact sk (below_app ‹_› hbw2 (Below.size ‹_›)))) (first | (go_at_call 38; with_reducible refine (eqTemplate_yes _ _ _ _ _ _ _ x _ (HX3.out.on (Below.refl _ _).drew) (HX4.out.on (Below.refl _ _).drew) hxn).mono ?_; rintro e w2 ⟨rfl, hbw2⟩))
      go_split_ands
      have hb3 : Below w.heap.size w w2 := below_app hb ‹Below wr.heap.size wr w2› hb.size
      go_wp2
      exact ⟨⟨k + 1, by omega, by go_num, hb3⟩, by simp [intOf]; omega⟩
    · clear hr hr'
      go_wp2
      go_ret
      exact ⟨rfl, hb⟩
theorem eqStore_yes (z : Int) (A A' : Option Addr) (n c n' c' : Nat) (xs : List TV) (w : World) (hr : TL w w.heap.size A n c xs) (hr' : TL w w.heap.size A' n' c' xs) (hn : totT xs ≤ 1048576) :
    Calls Tryz.prog 6 #[.agg #[.int .i64 z, .slice A n c], .agg #[.int .i64 z, .slice A' n' c']] w fun e w' => e = .returned (.bool true) ∧ Below w.heap.size w w' := by
  have hB : Below w.heap.size w ((w.alloc (.cells #[.int .i64 z, .slice A n c] 24)).alloc (.cells #[.int .i64 z, .slice A' n' c'] 24)) := (by repeat (first | exact Below.refl _ _ | assumption | refine Below.drew ?_ | refine below_drewN ?_ _ | refine Below.alloc ?_ (by first | omega | (simp <;> omega)) _ | refine Below.setCell ?_ (by first | omega | (simp <;> omega)) _))
  go_enter Tryz.func6, Tryz.ntmps6
  go_wp2_with fail
  with_reducible refine (eqTemplateS_yes _ _ _ _ _ _ xs _ (hr.on hB) (hr'.on hB) hn).mono ?_
  rintro e w1 ⟨rfl, hbw1⟩
  go_wp2
  go_ret
  exact ⟨rfl, below_on hbw1 hB⟩
end Go.Proofs.YtnjifhlabbejoaaGreatDoor
