/- Contracts of the functions on slices of Int64: made, compared, marked, read. -/
import Derived.Test.YtkldejbhhbgefaaSc
import Derived.Deep.QuietTactic
import Derived.BigQuiet
import Derived.Deep.RegionWith
namespace Go.Proofs.Ytkldejbhhbgefaa
open Go.ChangeShapes Go.WideShapes Go.ChangeAt Go.RowKit

theorem Try.infoInt64 : (Try.prog.info? 2).map (fun i => (i.zero, i.size, i.bytes)) = some (some (.int .i64 0), 1, 8) := by kernel_rfl
set_option maxHeartbeats 400000 in
theorem eqInt64S_any (A A' : Option Addr) (n c n' c' : Nat) (xs ys : List Int) (w : World) (hr : RdL c1 1 w w.heap.size A n c xs) (hr' : RdL c1 1 w w.heap.size A' n' c' ys) (hn : n ≤ 1048576) :
    Calls Try.prog 11 #[.slice A n c, .slice A' n' c'] w fun e w' => e = .returned (.bool (eqd xs ys)) ∧ Below w.heap.size w w' := by
  have hl := Lib.hid hr.len
  have hl' := Lib.hid hr'.len
  by_cases hnn : n = n'
  · subst hnn
    go_enter Try.func11, Try.ntmps11
    go_wp2
    go_loopw [5] (fun i wr => ∃ k : Nat, k ≤ n ∧ i = .int .i64 k ∧ Below w.heap.size w wr ∧ Hid (xs.take k = ys.take k)) (fun i _ => n - (intOf i).toNat)
    case atStart => exact ⟨0, by omega, rfl, Below.refl _ _, rfl⟩
    case round =>
      obtain ⟨k, hk, rfl, hb, hw⟩ := hrel
      by_cases hlt : k < n
      · obtain ⟨b, off, x, rfl, hbl, hx, q0⟩ := (hr.below hb).at1 hlt
        obtain ⟨b', off', x', rfl, hbl', hx', q0'⟩ := (hr'.below hb).at1 hlt
        clear hr hr'
        go_wp2
        go_quiet (fail)
        have hb3 : Below w.heap.size w (wr.drewN nq) := below_drewN hb _
        go_wp2
        · go_ret
          exact ⟨ret_bool (eqd_no.2 (ne_at hx.out hx'.out (by simpa using ‹(x != x') = true›))).symm, hb3⟩
        · exact ⟨⟨k + 1, by omega, by go_num, hb3, take_eq_step hw.out hx.out hx'.out (by simpa using ‹(x != x') = false›)⟩, by simp [intOf]; omega⟩
      · clear hr hr'
        go_wp2
        go_ret
        exact ⟨ret_bool (eqd_iff.2 (eq_end hw.out hl.out hl'.out (by omega))).symm, hb⟩
  · go_enter Try.func11, Try.ntmps11
    go_wp2
    go_ret
    exact ⟨ret_bool (eqd_no.2 (ne_len hl.out hl'.out hnn)).symm, Below.refl _ _⟩
theorem eqInt64S_yes (A A' : Option Addr) (n c n' c' : Nat) (xs : List Int) (w : World) (hr : RdL c1 1 w w.heap.size A n c xs) (hr' : RdL c1 1 w w.heap.size A' n' c' xs) (hn : n ≤ 1048576) :
    Calls Try.prog 11 #[.slice A n c, .slice A' n' c'] w fun e w' => e = .returned (.bool true) ∧ Below w.heap.size w w' :=
  (eqInt64S_any A A' n c n' c' xs xs w hr hr' hn).mono fun _ _ h => ⟨h.1.trans (ret_bool (eqd_iff.2 rfl)), h.2⟩
set_option maxHeartbeats 400000 in
theorem markInt64S_any (A : Option Addr) (n c base : Nat) (vs : List Value) (k : Int) (w : World) (ho : w.ownsRow base 2 1 (.slice A n c) n vs) (hn : n ≤ 1048576) (hk0 : 0 ≤ k) (hk1 : k ≤ 1048576) :
    Calls Try.prog 14 #[.slice A n c, .int .i64 k] w fun e w' => e = .returned (.int .i64 (k + n)) ∧ w'.ownsRow base 2 1 (.slice A n c) n ((marks1 k n).flatMap c1) ∧ w.grownBy w' (Value.slice A n c).ownBlock := by
  have hl := Lib.hid ho.1
  by_cases hpos : 0 < n
  · obtain ⟨g, rfl, hg0, hg1⟩ := own_at ho hpos
    go_enter Try.func14, Try.ntmps14
    go_wp2
    go_loopw [1, 5] (fun q i wr => ∃ j : Nat, j ≤ n ∧ i = .int .i64 j ∧ q = .int .i64 (k + j) ∧ w.grownBy wr (some g) ∧ wr.ownsRow base 2 1 (.slice (some ⟨g, 0, none⟩) n c) n ((marks1 k j).flatMap c1 ++ vs.drop j)) (fun _ i _ => n - (intOf i).toNat)
    case atStart => exact ⟨0, by omega, rfl, by simp, World.grownBy.refl _ _, by simpa [marks1] using ho⟩
    case round =>
      obtain ⟨j, hj, rfl, rfl, hgr, hw⟩ := hrel
      by_cases hlt : j < n
      · obtain ⟨⟨v0, e0⟩, f0⟩ := own_cell hw (j := j) (by omega)
        clear ho
        go_wp2
        refine ⟨⟨j + 1, by omega, by go_num, by go_num, only_setCell hgr (.inl rfl) _, ?_⟩, by simp [intOf]; omega⟩
        exact mark1 hw hl.out hlt
      · have hjn : j = n := by omega
        subst hjn
        clear ho
        go_wp2
        go_ret
        refine ⟨rfl, ?_, hgr⟩
        rw [List.drop_eq_nil_of_le (by rw [hl.out]; omega), List.append_nil] at hw
        exact hw
  · have h0 : n = 0 := by omega
    subst h0
    have hv : vs = [] := List.eq_nil_of_length_eq_zero (by simpa using ho.1)
    subst hv
    go_enter Try.func14, Try.ntmps14
    go_wp2
    refine wp_loop_once ?_
    go_wp2
    go_ret
    exact ⟨ret_int (by simp), by simpa [marks1] using ho, World.grownBy.refl _ _⟩
set_option maxHeartbeats 400000 in
theorem heldInt64S_any (A : Option Addr) (n c : Nat) (k : Int) (w : World) (hr : RdL c1 1 w w.heap.size A n c (marks1 k n)) (hn : n ≤ 1048576) (hk0 : 0 ≤ k) (hk1 : k ≤ 1048576) :
    Calls Try.prog 15 #[.slice A n c, .int .i64 k] w fun e w' => e = .returned (.int .i64 (k + n)) ∧ Below w.heap.size w w' := by
  go_enter Try.func15, Try.ntmps15
  go_wp2
  go_loop [1, 5] (fun q i => ∃ j : Nat, j ≤ n ∧ i = .int .i64 j ∧ q = .int .i64 (k + j)) (fun _ i => n - (intOf i).toNat)
  case atStart => exact ⟨0, by omega, rfl, by simp⟩
  case round =>
    obtain ⟨j, hj, rfl, rfl⟩ := hrel
    by_cases hlt : j < n
    · obtain ⟨b, off, x, rfl, hbl, hx, q0⟩ := hr.at1 hlt
      have hm := marks1_at hx.out
      subst hm
      clear hr
      go_wp2
      refine ⟨⟨j + 1, by omega, by go_num, by go_num⟩, by simp [intOf]; omega⟩
    · have hjn : j = n := by omega
      subst hjn
      clear hr
      go_wp2
      go_ret
      exact ⟨rfl, Below.refl _ _⟩
end Go.Proofs.Ytkldejbhhbgefaa
