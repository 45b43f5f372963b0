/- Contracts of the functions on slices of Point: made, compared, marked, read. -/
import Derived.Test.YtbfilhpgekgmbaaSc
import Derived.Deep.QuietTactic
import Derived.BigQuiet
import Derived.Deep.RegionWith
namespace Go.Proofs.Ytbfilhpgekgmbaa
open Go.ChangeShapes Go.WideShapes Go.ChangeAt Go.RowKit

theorem szPointS_any (A : Option Addr) (n c : Nat) (left : Int) (w : World) (hn : n ≤ 9223372036854775807) (h0 : 0 ≤ left) (h1 : left ≤ 1048576) :
    Calls Try.prog 77 #[.slice A n c, .int .i64 left] w fun e w' => e = .returned (.int .i64 (if left < n then -1 else left - n)) ∧ w = w' := by
  go_enter Try.func77, Try.ntmps77
  go_wp2
  all_goals
    go_ret
    exact ⟨ret_int (by first | rfl | omega), rfl⟩
theorem szPointS_no (A : Option Addr) (n c : Nat) (left : Int) (w : World) (hn : n ≤ 9223372036854775807) (h0 : 0 ≤ left) (h1 : left ≤ 1048576) (h : left < n) :
    Calls Try.prog 77 #[.slice A n c, .int .i64 left] w fun e w' => e = .returned (.int .i64 (-1)) ∧ w = w' := by
  have := szPointS_any A n c left w hn h0 h1
  rwa [if_pos h] at this
theorem szPointS_yes (A : Option Addr) (n c : Nat) (left : Int) (w : World) (hn : n ≤ 9223372036854775807) (h0 : 0 ≤ left) (h1 : left ≤ 1048576) (h : (n : Int) ≤ left) :
    Calls Try.prog 77 #[.slice A n c, .int .i64 left] w fun e w' => e = .returned (.int .i64 (left - n)) ∧ w = w' := by
  have := szPointS_any A n c left w hn h0 h1
  rwa [if_neg (by omega)] at this
theorem toPoint_any (x y d : Int) (w : World) : Calls Try.prog 90 #[.agg #[.int .i64 x, .int .i64 y, .int .i64 d]] w fun e w' => e = .returned (.agg #[.int .i64 x, .int .i64 y, .int .i64 d]) ∧ Below w.heap.size w w' := by
  go_enter Try.func90, Try.ntmps90
  go_wp2
  exact bodyPost_ret (v := .agg #[.int .i64 x, .int .i64 y, .int .i64 d]) (by simp [results, Try.results90, go_sem]) rfl ⟨rfl, (by repeat (first | exact Below.refl _ _ | assumption | refine Below.drew ?_ | refine below_drewN ?_ _ | refine Below.alloc ?_ (by first | omega | (simp <;> omega)) _ | refine Below.setCell ?_ (by first | omega | (simp <;> omega)) _))⟩
theorem eqPoint_any (x y d x' y' d' : Int) (w : World) : Calls Try.prog 91 #[.agg #[.int .i64 x, .int .i64 y, .int .i64 d], .agg #[.int .i64 x', .int .i64 y', .int .i64 d']] w fun e w' => e = .returned (.bool (eqd ((x, y, d) : T3) (x', y', d'))) ∧ Below w.heap.size w w' := by
  go_enter Try.func91, Try.ntmps91
  go_wp2
  all_goals
    go_ret
    exact ⟨ret_bool (by simp_all [eqd]), (by repeat (first | exact Below.refl _ _ | assumption | refine Below.drew ?_ | refine below_drewN ?_ _ | refine Below.alloc ?_ (by first | omega | (simp <;> omega)) _ | refine Below.setCell ?_ (by first | omega | (simp <;> omega)) _))⟩
theorem eqPoint_same (x y d : Int) (w : World) : Calls Try.prog 91 #[.agg #[.int .i64 x, .int .i64 y, .int .i64 d], .agg #[.int .i64 x, .int .i64 y, .int .i64 d]] w fun e w' => e = .returned (.bool true) ∧ Below w.heap.size w w' :=
  (eqPoint_any x y d x y d w).mono fun _ _ h => ⟨h.1.trans (ret_bool (eqd_iff.2 rfl)), h.2⟩
theorem Try.infoPoint : (Try.prog.info? 54).map (fun i => (i.zero, i.size, i.bytes)) = some (some (.agg #[.int .i64 0, .int .i64 0, .int .i64 0]), 3, 24) := by kernel_rfl
set_option maxHeartbeats 400000 in
theorem toPointS_any (A : Option Addr) (n c : Nat) (xs : List T3) (w : World) (hr : RdL c3 3 w w.heap.size A n c xs) (hn : n ≤ 1048576) :
    Calls Try.prog 79 #[.slice A n c] w fun e w' => e = .returned (.slice (some ⟨w.heap.size, 0, none⟩) n n) ∧
      w'.ownsRow w.heap.size 54 3 (.slice (some ⟨w.heap.size, 0, none⟩) n n) n (xs.flatMap c3) ∧ Below w.heap.size w w' := by
  obtain ⟨i0, hi, hz0, hz1, hz2⟩ := info_parts Try.infoPoint
  go_enter Try.func79, Try.ntmps79
  go_wp2_with (refine wpList_make_full _ rfl _ _ _ rfl w.heap.size 54 i0 _ 3 Try.underlying50 hi hz0 hz1 .i64 .i64 n n n rfl rfl rfl rfl (by rw [hz2]; omega) (by unfold maxLen; omega) (Nat.le_refl _) ?_; intro w1 hown hg)
  rw [made3] at hown
  have hlen := hr.len
  go_loopw [4] (fun i wr => ∃ k : Nat, k ≤ n ∧ i = .int .i64 k ∧ Below w.heap.size w wr ∧
      wr.ownsRow w.heap.size 54 3 (.slice (some ⟨w.heap.size, 0, none⟩) n n) n ((xs.take k).flatMap c3 ++ List.replicate ((n - k) * 3) (.int .i64 0))) (fun i _ => n - (intOf i).toNat)
  case atStart => exact ⟨0, by omega, rfl, (Below.refl _ _).grown hg (Nat.le_refl _) (fun k h => by cases h), by simpa using hown⟩
  case round =>
    obtain ⟨k, hk, rfl, hb, hw⟩ := hrel
    by_cases hlt : k < n
    · obtain ⟨b, off, x, y, d, rfl, hbl, hx, q0, q1, q2⟩ := (hr.below hb).at3 hlt
      clear hown hr
      go_wp2_with (first | (go_at_call 90; refine (toPoint_any _ _ _ _).mono ?_; rintro e w' ⟨rfl, hb2⟩; have hw2 := own_below hw hb2; obtain ⟨⟨v0, e0⟩, f0⟩ := own_cell hw2 (j := k * 3) (by omega); obtain ⟨⟨v1, e1⟩, f1⟩ := own_cell hw2 (j := k * 3 + 1) (by omega); obtain ⟨⟨v2, e2⟩, f2⟩ := own_cell hw2 (j := k * 3 + 2) (by omega)))
      have hb3 : Below w.heap.size w w' := below_app hb hb2 hb.size
      refine ⟨⟨k + 1, by omega, by go_num, (by repeat (first | exact Below.refl _ _ | assumption | refine Below.drew ?_ | refine below_drewN ?_ _ | refine Below.alloc ?_ (by first | omega | (simp <;> omega)) _ | refine Below.setCell ?_ (by first | omega | (simp <;> omega)) _)), ?_⟩, by simp [intOf]; omega⟩
      rw [take_succ_of hx.out]
      exact put3 hw2 (by rw [List.length_take]; omega) hlt x y d
    · have hkn : k = n := by omega
      subst hkn
      clear hown hr
      go_wp2
      go_ret
      refine ⟨rfl, ?_, hb⟩
      rw [List.take_of_length_le (by omega)] at hw
      simpa using hw
set_option maxHeartbeats 400000 in
theorem eqPointS_any (A A' : Option Addr) (n c n' c' : Nat) (xs ys : List T3) (w : World) (hr : RdL c3 3 w w.heap.size A n c xs) (hr' : RdL c3 3 w w.heap.size A' n' c' ys) (hn : n ≤ 1048576) :
    Calls Try.prog 81 #[.slice A n c, .slice A' n' c'] w fun e w' => e = .returned (.bool (eqd xs ys)) ∧ Below w.heap.size w w' := by
  have hl := Lib.hid hr.len
  have hl' := Lib.hid hr'.len
  by_cases hnn : n = n'
  · subst hnn
    go_enter Try.func81, Try.ntmps81
    go_wp2
    go_loopw [5] (fun i wr => ∃ k : Nat, k ≤ n ∧ i = .int .i64 k ∧ Below w.heap.size w wr ∧ Hid (xs.take k = ys.take k)) (fun i _ => n - (intOf i).toNat)
    case atStart => exact ⟨0, by omega, rfl, Below.refl _ _, rfl⟩
    case round =>
      obtain ⟨k, hk, rfl, hb, hw⟩ := hrel
      by_cases hlt : k < n
      · obtain ⟨b, off, x, y, d, rfl, hbl, hx, q0, q1, q2⟩ := (hr.below hb).at3 hlt
        obtain ⟨b', off', x', y', d', rfl, hbl', hx', q0', q1', q2'⟩ := (hr'.below hb).at3 hlt
        clear hr hr'
        go_wp2
        go_region_with ((go_at_call 91; refine (eqPoint_any _ _ _ _ _ _ _).mono ?_; rintro e w' ⟨rfl, hb2⟩))
        all_goals
          have hb3 : Below w.heap.size w w' := below_app hb.drew hb2 hb.size
          go_wp2
          · go_ret
            exact ⟨ret_bool (eqd_no.2 (ne_at hx.out hx'.out (eqd_no.1 (not_t ‹_›)))).symm, hb3⟩
          · exact ⟨⟨k + 1, by omega, by go_num, hb3, take_eq_step hw.out hx.out hx'.out (eqd_iff.1 (not_f ‹_›))⟩, by simp [intOf]; omega⟩
      · clear hr hr'
        go_wp2
        go_ret
        exact ⟨ret_bool (eqd_iff.2 (eq_end hw.out hl.out hl'.out (by omega))).symm, hb⟩
  · go_enter Try.func81, Try.ntmps81
    go_wp2
    go_ret
    exact ⟨ret_bool (eqd_no.2 (ne_len hl.out hl'.out hnn)).symm, Below.refl _ _⟩
theorem eqPointS_yes (A A' : Option Addr) (n c n' c' : Nat) (xs : List T3) (w : World) (hr : RdL c3 3 w w.heap.size A n c xs) (hr' : RdL c3 3 w w.heap.size A' n' c' xs) (hn : n ≤ 1048576) :
    Calls Try.prog 81 #[.slice A n c, .slice A' n' c'] w fun e w' => e = .returned (.bool true) ∧ Below w.heap.size w w' :=
  (eqPointS_any A A' n c n' c' xs xs w hr hr' hn).mono fun _ _ h => ⟨h.1.trans (ret_bool (eqd_iff.2 rfl)), h.2⟩
set_option maxHeartbeats 400000 in
theorem markPointS_any (A : Option Addr) (n c base : Nat) (vs : List Value) (k : Int) (w : World) (ho : w.ownsRow base 54 3 (.slice A n c) n vs) (hn : n ≤ 1048576) (hk0 : 0 ≤ k) (hk1 : k ≤ 1048576) :
    Calls Try.prog 65 #[.slice A n c, .int .i64 k] w fun e w' => e = .returned (.int .i64 (k + 3 * n)) ∧ w'.ownsRow base 54 3 (.slice A n c) n ((marks3 k n).flatMap c3) ∧ w.grownBy w' (Value.slice A n c).ownBlock := by
  have hl := Lib.hid ho.1
  by_cases hpos : 0 < n
  · obtain ⟨g, rfl, hg0, hg1⟩ := own_at ho hpos
    go_enter Try.func65, Try.ntmps65
    go_wp2
    go_loopw [1, 5] (fun q i wr => ∃ j : Nat, j ≤ n ∧ i = .int .i64 j ∧ q = .int .i64 (k + 3 * j) ∧ w.grownBy wr (some g) ∧ wr.ownsRow base 54 3 (.slice (some ⟨g, 0, none⟩) n c) n ((marks3 k j).flatMap c3 ++ vs.drop (j * 3))) (fun _ i _ => n - (intOf i).toNat)
    case atStart => exact ⟨0, by omega, rfl, by simp, World.grownBy.refl _ _, by simpa [marks3] using ho⟩
    case round =>
      obtain ⟨j, hj, rfl, rfl, hgr, hw⟩ := hrel
      by_cases hlt : j < n
      · obtain ⟨⟨v0, e0⟩, f0⟩ := own_cell hw (j := j * 3) (by omega); obtain ⟨⟨v1, e1⟩, f1⟩ := own_cell hw (j := j * 3 + 1) (by omega); obtain ⟨⟨v2, e2⟩, f2⟩ := own_cell hw (j := j * 3 + 2) (by omega)
        clear ho
        go_wp2
        refine ⟨⟨j + 1, by omega, by go_num, by go_num, only_setCell (only_setCell (only_setCell hgr (.inl rfl) _) (.inl rfl) _) (.inl rfl) _, ?_⟩, by simp [intOf]; omega⟩
        exact mark3 hw hl.out hlt
      · have hjn : j = n := by omega
        subst hjn
        clear ho
        go_wp2
        go_ret
        refine ⟨rfl, ?_, hgr⟩
        rw [List.drop_eq_nil_of_le (by rw [hl.out]; omega), List.append_nil] at hw
        exact hw
  · have h0 : n = 0 := by omega
    subst h0
    have hv : vs = [] := List.eq_nil_of_length_eq_zero (by simpa using ho.1)
    subst hv
    go_enter Try.func65, Try.ntmps65
    go_wp2
    refine wp_loop_once ?_
    go_wp2
    go_ret
    exact ⟨ret_int (by simp), by simpa [marks3] using ho, World.grownBy.refl _ _⟩
set_option maxHeartbeats 400000 in
theorem heldPointS_any (A : Option Addr) (n c : Nat) (k : Int) (w : World) (hr : RdL c3 3 w w.heap.size A n c (marks3 k n)) (hn : n ≤ 1048576) (hk0 : 0 ≤ k) (hk1 : k ≤ 1048576) :
    Calls Try.prog 66 #[.slice A n c, .int .i64 k] w fun e w' => e = .returned (.int .i64 (k + 3 * n)) ∧ Below w.heap.size w w' := by
  go_enter Try.func66, Try.ntmps66
  go_wp2
  go_loop [1, 5] (fun q i => ∃ j : Nat, j ≤ n ∧ i = .int .i64 j ∧ q = .int .i64 (k + 3 * j)) (fun _ i => n - (intOf i).toNat)
  case atStart => exact ⟨0, by omega, rfl, by simp⟩
  case round =>
    obtain ⟨j, hj, rfl, rfl⟩ := hrel
    by_cases hlt : j < n
    · obtain ⟨b, off, x, y, d, rfl, hbl, hx, q0, q1, q2⟩ := hr.at3 hlt
      have hm := marks3_at hx.out
      simp only [Prod.mk.injEq] at hm
      obtain ⟨rfl, rfl, rfl⟩ := hm
      clear hr
      go_wp2
      refine ⟨⟨j + 1, by omega, by go_num, by go_num⟩, by simp [intOf]; omega⟩
    · have hjn : j = n := by omega
      subst hjn
      clear hr
      go_wp2
      go_ret
      exact ⟨rfl, Below.refl _ _⟩
end Go.Proofs.Ytbfilhpgekgmbaa
