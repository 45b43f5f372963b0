/- Contracts of the functions on slices of Match: made, compared, marked, read. -/
import Derived.Test.YtkldejbhhbgefaaSc
import Derived.Deep.QuietTactic
import Derived.BigQuiet
import Derived.Deep.RegionWith
namespace Go.Proofs.Ytkldejbhhbgefaa
open Go.ChangeShapes Go.WideShapes Go.ChangeAt Go.RowKit

theorem eqMatch_any (x y x' y' : Int) (w : World) : Calls Try.prog 61 #[.agg #[.int .i64 x, .int .i64 y], .agg #[.int .i64 x', .int .i64 y']] w fun e w' => e = .returned (.bool (eqd ((x, y) : T2) (x', y'))) ∧ Below w.heap.size w w' := by
  go_enter Try.func61, Try.ntmps61
  go_wp2
  all_goals
    go_ret
    exact ⟨ret_bool (by simp_all [eqd]), (by repeat (first | exact Below.refl _ _ | assumption | refine Below.drew ?_ | refine below_drewN ?_ _ | refine Below.alloc ?_ (by first | omega | (simp <;> omega)) _ | refine Below.setCell ?_ (by first | omega | (simp <;> omega)) _))⟩
theorem eqMatch_same (x y : Int) (w : World) : Calls Try.prog 61 #[.agg #[.int .i64 x, .int .i64 y], .agg #[.int .i64 x, .int .i64 y]] w fun e w' => e = .returned (.bool true) ∧ Below w.heap.size w w' :=
  (eqMatch_any x y x y w).mono fun _ _ h => ⟨h.1.trans (ret_bool (eqd_iff.2 rfl)), h.2⟩
theorem Try.infoMatch : (Try.prog.info? 92).map (fun i => (i.zero, i.size, i.bytes)) = some (some (.agg #[.int .i64 0, .int .i64 0]), 2, 16) := by kernel_rfl
set_option maxHeartbeats 400000 in
theorem eqMatchS_any (A A' : Option Addr) (n c n' c' : Nat) (xs ys : List T2) (w : World) (hr : RdL c2 2 w w.heap.size A n c xs) (hr' : RdL c2 2 w w.heap.size A' n' c' ys) (hn : n ≤ 1048576) :
    Calls Try.prog 28 #[.slice A n c, .slice A' n' c'] w fun e w' => e = .returned (.bool (eqd xs ys)) ∧ Below w.heap.size w w' := by
  have hl := Lib.hid hr.len
  have hl' := Lib.hid hr'.len
  by_cases hnn : n = n'
  · subst hnn
    go_enter Try.func28, Try.ntmps28
    go_wp2
    go_loopw [5] (fun i wr => ∃ k : Nat, k ≤ n ∧ i = .int .i64 k ∧ Below w.heap.size w wr ∧ Hid (xs.take k = ys.take k)) (fun i _ => n - (intOf i).toNat)
    case atStart => exact ⟨0, by omega, rfl, Below.refl _ _, rfl⟩
    case round =>
      obtain ⟨k, hk, rfl, hb, hw⟩ := hrel
      by_cases hlt : k < n
      · obtain ⟨b, off, x, y, rfl, hbl, hx, q0, q1⟩ := (hr.below hb).at2 hlt
        obtain ⟨b', off', x', y', rfl, hbl', hx', q0', q1'⟩ := (hr'.below hb).at2 hlt
        clear hr hr'
        go_wp2
        go_region_with ((go_at_call 61; refine (eqMatch_any _ _ _ _ _).mono ?_; rintro e w' ⟨rfl, hb2⟩))
        all_goals
          have hb3 : Below w.heap.size w w' := below_app hb.drew hb2 hb.size
          go_wp2
          · go_ret
            exact ⟨ret_bool (eqd_no.2 (ne_at hx.out hx'.out (eqd_no.1 (not_t ‹_›)))).symm, hb3⟩
          · exact ⟨⟨k + 1, by omega, by go_num, hb3, take_eq_step hw.out hx.out hx'.out (eqd_iff.1 (not_f ‹_›))⟩, by simp [intOf]; omega⟩
      · clear hr hr'
        go_wp2
        go_ret
        exact ⟨ret_bool (eqd_iff.2 (eq_end hw.out hl.out hl'.out (by omega))).symm, hb⟩
  · go_enter Try.func28, Try.ntmps28
    go_wp2
    go_ret
    exact ⟨ret_bool (eqd_no.2 (ne_len hl.out hl'.out hnn)).symm, Below.refl _ _⟩
theorem eqMatchS_yes (A A' : Option Addr) (n c n' c' : Nat) (xs : List T2) (w : World) (hr : RdL c2 2 w w.heap.size A n c xs) (hr' : RdL c2 2 w w.heap.size A' n' c' xs) (hn : n ≤ 1048576) :
    Calls Try.prog 28 #[.slice A n c, .slice A' n' c'] w fun e w' => e = .returned (.bool true) ∧ Below w.heap.size w w' :=
  (eqMatchS_any A A' n c n' c' xs xs w hr hr' hn).mono fun _ _ h => ⟨h.1.trans (ret_bool (eqd_iff.2 rfl)), h.2⟩
set_option maxHeartbeats 400000 in
theorem markMatchS_any (A : Option Addr) (n c base : Nat) (vs : List Value) (k : Int) (w : World) (ho : w.ownsRow base 92 2 (.slice A n c) n vs) (hn : n ≤ 1048576) (hk0 : 0 ≤ k) (hk1 : k ≤ 1048576) :
    Calls Try.prog 29 #[.slice A n c, .int .i64 k] w fun e w' => e = .returned (.int .i64 (k + 2 * n)) ∧ w'.ownsRow base 92 2 (.slice A n c) n ((marks2 k n).flatMap c2) ∧ w.grownBy w' (Value.slice A n c).ownBlock := by
  have hl := Lib.hid ho.1
  by_cases hpos : 0 < n
  · obtain ⟨g, rfl, hg0, hg1⟩ := own_at ho hpos
    go_enter Try.func29, Try.ntmps29
    go_wp2
    go_loopw [1, 5] (fun q i wr => ∃ j : Nat, j ≤ n ∧ i = .int .i64 j ∧ q = .int .i64 (k + 2 * j) ∧ w.grownBy wr (some g) ∧ wr.ownsRow base 92 2 (.slice (some ⟨g, 0, none⟩) n c) n ((marks2 k j).flatMap c2 ++ vs.drop (j * 2))) (fun _ i _ => n - (intOf i).toNat)
    case atStart => exact ⟨0, by omega, rfl, by simp, World.grownBy.refl _ _, by simpa [marks2] using ho⟩
    case round =>
      obtain ⟨j, hj, rfl, rfl, hgr, hw⟩ := hrel
      by_cases hlt : j < n
      · obtain ⟨⟨v0, e0⟩, f0⟩ := own_cell hw (j := j * 2) (by omega); obtain ⟨⟨v1, e1⟩, f1⟩ := own_cell hw (j := j * 2 + 1) (by omega)
        clear ho
        go_wp2
        refine ⟨⟨j + 1, by omega, by go_num, by go_num, only_setCell (only_setCell hgr (.inl rfl) _) (.inl rfl) _, ?_⟩, by simp [intOf]; omega⟩
        exact mark2 hw hl.out hlt
      · have hjn : j = n := by omega
        subst hjn
        clear ho
        go_wp2
        go_ret
        refine ⟨rfl, ?_, hgr⟩
        rw [List.drop_eq_nil_of_le (by rw [hl.out]; omega), List.append_nil] at hw
        exact hw
  · have h0 : n = 0 := by omega
    subst h0
    have hv : vs = [] := List.eq_nil_of_length_eq_zero (by simpa using ho.1)
    subst hv
    go_enter Try.func29, Try.ntmps29
    go_wp2
    refine wp_loop_once ?_
    go_wp2
    go_ret
    exact ⟨ret_int (by simp), by simpa [marks2] using ho, World.grownBy.refl _ _⟩
set_option maxHeartbeats 400000 in
theorem heldMatchS_any (A : Option Addr) (n c : Nat) (k : Int) (w : World) (hr : RdL c2 2 w w.heap.size A n c (marks2 k n)) (hn : n ≤ 1048576) (hk0 : 0 ≤ k) (hk1 : k ≤ 1048576) :
    Calls Try.prog 30 #[.slice A n c, .int .i64 k] w fun e w' => e = .returned (.int .i64 (k + 2 * n)) ∧ Below w.heap.size w w' := by
  go_enter Try.func30, Try.ntmps30
  go_wp2
  go_loop [1, 5] (fun q i => ∃ j : Nat, j ≤ n ∧ i = .int .i64 j ∧ q = .int .i64 (k + 2 * j)) (fun _ i => n - (intOf i).toNat)
  case atStart => exact ⟨0, by omega, rfl, by simp⟩
  case round =>
    obtain ⟨j, hj, rfl, rfl⟩ := hrel
    by_cases hlt : j < n
    · obtain ⟨b, off, x, y, rfl, hbl, hx, q0, q1⟩ := hr.at2 hlt
      have hm := marks2_at hx.out
      simp only [Prod.mk.injEq] at hm
      obtain ⟨rfl, rfl⟩ := hm
      clear hr
      go_wp2
      refine ⟨⟨j + 1, by omega, by go_num, by go_num⟩, by simp [intOf]; omega⟩
    · have hjn : j = n := by omega
      subst hjn
      clear hr
      go_wp2
      go_ret
      exact ⟨rfl, Below.refl _ _⟩
end Go.Proofs.Ytkldejbhhbgefaa
