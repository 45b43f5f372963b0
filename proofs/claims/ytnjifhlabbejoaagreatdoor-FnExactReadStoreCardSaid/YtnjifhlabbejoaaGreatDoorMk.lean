/- Contracts: marks written into rows of numbers and read back; eq with known answers. -/
import Derived.Test.YtnjifhlabbejoaaGreatDoorFe
namespace Go.Proofs.YtnjifhlabbejoaaGreatDoor
open Go.ChangeShapes Go.WideShapes Go.ChangeAt Go.RowKit

theorem eqFeatS_yes (A A' : Option Addr) (n c n' c' : Nat) (xs : List T3) (w : World) (hr : RdL c3 3 w w.heap.size A n c xs) (hr' : RdL c3 3 w w.heap.size A' n' c' xs) (hn : n ≤ 1048576) :
    Calls Tryz.prog 60 #[.slice A n c, .slice A' n' c'] w fun e w' => e = .returned (.bool true) ∧ Below w.heap.size w w' :=
  (eqFeatS_any A A' n c n' c' xs xs w hr hr' hn).mono fun _ _ h => ⟨h.1.trans (ret_bool (eqd_iff.2 rfl)), h.2⟩
set_option maxHeartbeats 400000 in
theorem markFeatS_any (A : Option Addr) (n c base : Nat) (vs : List Value) (k : Int) (w : World) (ho : w.ownsRow base 60 3 (.slice A n c) n vs) (hn : n ≤ 1048576) (hk0 : 0 ≤ k) (hk1 : k ≤ 1099511627776) :
    Calls Tryz.prog 40 #[.slice A n c, .int .i64 k] w fun e w' => e = .returned (.int .i64 (k + 3 * n)) ∧ w'.ownsRow base 60 3 (.slice A n c) n ((marks3 k n).flatMap c3) ∧ w.grownBy w' (Value.slice A n c).ownBlock := by
  have hl := Lib.hid ho.1
  by_cases hpos : 0 < n
  · obtain ⟨g, rfl, hg0, hg1⟩ := own_at ho hpos
    go_enter Tryz.func40, Tryz.ntmps40
    go_wp2
    go_loopw [1, 5] (fun q i wr => ∃ j : Nat, j ≤ n ∧ i = .int .i64 j ∧ q = .int .i64 (k + 3 * j) ∧ w.grownBy wr (some g) ∧ wr.ownsRow base 60 3 (.slice (some ⟨g, 0, none⟩) n c) n ((marks3 k j).flatMap c3 ++ vs.drop (j * 3))) (fun _ i _ => n - (intOf i).toNat)
    case atStart => exact ⟨0, by omega, rfl, by simp, World.grownBy.refl _ _, by simpa [marks3] using ho⟩
    case round =>
      obtain ⟨j, hj, rfl, rfl, hgr, hw⟩ := hrel
      by_cases hlt : j < n
      · obtain ⟨⟨v0, e0⟩, f0⟩ := own_cell hw (j := j * 3) (by omega)
        obtain ⟨⟨v1, e1⟩, f1⟩ := own_cell hw (j := j * 3 + 1) (by omega)
        obtain ⟨⟨v2, e2⟩, f2⟩ := own_cell hw (j := j * 3 + 2) (by omega)
        clear ho
        go_wp2
        refine ⟨⟨j + 1, by omega, by go_num, by go_num, only_setCell (only_setCell (only_setCell hgr (.inl rfl) _) (.inl rfl) _) (.inl rfl) _, ?_⟩, by simp [intOf]; omega⟩
        exact mark3 hw hl.out hlt
      · have hjn : j = n := by omega
        subst hjn
        clear ho
        go_wp2
        go_ret
        refine ⟨rfl, ?_, hgr⟩
        rw [List.drop_eq_nil_of_le (by rw [hl.out]; omega), List.append_nil] at hw
        exact hw
  · have h0 : n = 0 := by omega
    subst h0
    have hv : vs = [] := List.eq_nil_of_length_eq_zero (by simpa using ho.1)
    subst hv
    go_enter Tryz.func40, Tryz.ntmps40
    go_wp2
    refine wp_loop_once ?_
    go_wp2
    go_ret
    exact ⟨ret_int (by simp), by simpa [marks3] using ho, World.grownBy.refl _ _⟩
set_option maxHeartbeats 400000 in
theorem heldFeatS_big (A : Option Addr) (n c : Nat) (k : Int) (w : World) (hr : RdL c3 3 w w.heap.size A n c (marks3 k n)) (hn : n ≤ 1048576) (hk0 : 0 ≤ k) (hk1 : k ≤ 1099511627776) :
    Calls Tryz.prog 41 #[.slice A n c, .int .i64 k] w fun e w' => e = .returned (.int .i64 (k + 3 * n)) ∧ Below w.heap.size w w' := by
  go_enter Tryz.func41, Tryz.ntmps41
  go_wp2
  go_loop [1, 5] (fun q i => ∃ j : Nat, j ≤ n ∧ i = .int .i64 j ∧ q = .int .i64 (k + 3 * j)) (fun _ i => n - (intOf i).toNat)
  case atStart => exact ⟨0, by omega, rfl, by simp⟩
  case round =>
    obtain ⟨j, hj, rfl, rfl⟩ := hrel
    by_cases hlt : j < n
    · obtain ⟨b, off, x, y, d, rfl, hbl, hx, q0, q1, q2⟩ := hr.at3 hlt
      have hm := marks3_at hx.out
      simp only [Prod.mk.injEq] at hm
      obtain ⟨rfl, rfl, rfl⟩ := hm
      clear hr
      go_wp2
      refine ⟨⟨j + 1, by omega, by go_num, by go_num⟩, by simp [intOf]; omega⟩
    · have hjn : j = n := by omega
      subst hjn
      clear hr
      go_wp2
      go_ret
      exact ⟨rfl, Below.refl _ _⟩
theorem heldFeatS_any (A : Option Addr) (n c : Nat) (k : Int) (w : World) (hr : RdL c3 3 w w.heap.size A n c (marks3 k n)) (hn : n ≤ 1048576) (hk0 : 0 ≤ k) (hk1 : k ≤ 1048576) :
    Calls Tryz.prog 41 #[.slice A n c, .int .i64 k] w fun e w' => e = .returned (.int .i64 (k + 3 * n)) ∧ Below w.heap.size w w' := heldFeatS_big A n c k w hr hn hk0 (by omega)
end Go.Proofs.YtnjifhlabbejoaaGreatDoor
