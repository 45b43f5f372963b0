/- Contracts of the functions on slices of features: made, compared, tested, marked, read. -/
import Derived.Test.YtnjifhlabbejoaaDoorSc
import Derived.Deep.QuietTactic
import Derived.BigQuiet
import Derived.Deep.RegionWith
namespace Go.Proofs.YtnjifhlabbejoaaDoor
open Go.ChangeShapes Go.WideShapes Go.ChangeAt Go.RowKit

theorem szFeatS_any (A : Option Addr) (n c : Nat) (left : Int) (w : World) (hn : n ≤ 9223372036854775807) (h0 : 0 ≤ left) (h1 : left ≤ 1048576) :
    Calls Tryd.prog 11 #[.slice A n c, .int .i64 left] w fun e w' => e = .returned (.int .i64 (if left < n then -1 else left - n)) ∧ w = w' := by
  go_enter Tryd.func11, Tryd.ntmps11
  go_wp2
  all_goals
    go_ret
    exact ⟨ret_int (by first | rfl | omega), rfl⟩
theorem Tryd.feInfo : (Tryd.prog.info? 50).map (fun i => (i.zero, i.size, i.bytes)) = some (some (.agg #[.int .i64 0, .int .i64 0, .int .i64 0]), 3, 24) := by kernel_rfl
set_option maxHeartbeats 400000 in
theorem toFeatS_any (A : Option Addr) (n c : Nat) (xs : List T3) (w : World) (hr : RdL c3 3 w w.heap.size A n c xs) (hn : n ≤ 1048576) :
    Calls Tryd.prog 13 #[.slice A n c] w fun e w' => e = .returned (.slice (some ⟨w.heap.size, 0, none⟩) n n) ∧
      w'.ownsRow w.heap.size 50 3 (.slice (some ⟨w.heap.size, 0, none⟩) n n) n (xs.flatMap c3) ∧ Below w.heap.size w w' := by
  obtain ⟨i0, hi, hz0, hz1, hz2⟩ := info_parts Tryd.feInfo
  go_enter Tryd.func13, Tryd.ntmps13
  go_wp2_with (refine wpList_make_full _ rfl _ _ _ rfl w.heap.size 50 i0 _ 3 Tryd.underlying22 hi hz0 hz1 .i64 .i64 n n n rfl rfl rfl rfl (by rw [hz2]; omega) (by unfold maxLen; omega) (Nat.le_refl _) ?_; intro w1 hown hg)
  rw [made3] at hown
  have hlen := hr.len
  go_loopw [4] (fun i wr => ∃ k : Nat, k ≤ n ∧ i = .int .i64 k ∧ Below w.heap.size w wr ∧
      wr.ownsRow w.heap.size 50 3 (.slice (some ⟨w.heap.size, 0, none⟩) n n) n ((xs.take k).flatMap c3 ++ List.replicate ((n - k) * 3) (.int .i64 0))) (fun i _ => n - (intOf i).toNat)
  case atStart => exact ⟨0, by omega, rfl, (Below.refl _ _).grown hg (Nat.le_refl _) (fun k h => by cases h), by simpa using hown⟩
  case round =>
    obtain ⟨k, hk, rfl, hb, hw⟩ := hrel
    by_cases hlt : k < n
    · obtain ⟨b, off, x, y, d, rfl, hbl, hx, q0, q1, q2⟩ := (hr.below hb).at3 hlt
      clear hown hr
      go_wp2_with (first | (go_at_call 27; refine (toFeat_any _ _ _ _).mono ?_; rintro e w' ⟨rfl, hb2⟩; have hw2 := own_below hw hb2; obtain ⟨⟨v0, e0⟩, f0⟩ := own_cell hw2 (j := k * 3) (by omega); obtain ⟨⟨v1, e1⟩, f1⟩ := own_cell hw2 (j := k * 3 + 1) (by omega); obtain ⟨⟨v2, e2⟩, f2⟩ := own_cell hw2 (j := k * 3 + 2) (by omega)))
      have hb3 : Below w.heap.size w w' := below_app hb hb2 hb.size
      refine ⟨⟨k + 1, by omega, by go_num, (by repeat (first | exact Below.refl _ _ | assumption | refine Below.drew ?_ | refine below_drewN ?_ _ | refine Below.alloc ?_ (by first | omega | (simp <;> omega)) _ | refine Below.setCell ?_ (by first | omega | (simp <;> omega)) _)), ?_⟩, by simp [intOf]; omega⟩
      rw [take_succ_of hx.out]
      exact put3 hw2 (by rw [List.length_take]; omega) hlt x y d
    · have hkn : k = n := by omega
      subst hkn
      clear hown hr
      go_wp2
      go_ret
      refine ⟨rfl, ?_, hb⟩
      rw [List.take_of_length_le (by omega)] at hw
      simpa using hw
set_option maxHeartbeats 400000 in
theorem eqFeatS_any (A A' : Option Addr) (n c n' c' : Nat) (xs ys : List T3) (w : World) (hr : RdL c3 3 w w.heap.size A n c xs) (hr' : RdL c3 3 w w.heap.size A' n' c' ys) (hn : n ≤ 1048576) :
    Calls Tryd.prog 8 #[.slice A n c, .slice A' n' c'] w fun e w' => e = .returned (.bool (eqd xs ys)) ∧ Below w.heap.size w w' := by
  have hl := Lib.hid hr.len
  have hl' := Lib.hid hr'.len
  by_cases hnn : n = n'
  · subst hnn
    go_enter Tryd.func8, Tryd.ntmps8
    go_wp2
    go_loopw [5] (fun i wr => ∃ k : Nat, k ≤ n ∧ i = .int .i64 k ∧ Below w.heap.size w wr ∧ Hid (xs.take k = ys.take k)) (fun i _ => n - (intOf i).toNat)
    case atStart => exact ⟨0, by omega, rfl, Below.refl _ _, rfl⟩
    case round =>
      obtain ⟨k, hk, rfl, hb, hw⟩ := hrel
      by_cases hlt : k < n
      · obtain ⟨b, off, x, y, d, rfl, hbl, hx, q0, q1, q2⟩ := (hr.below hb).at3 hlt
        obtain ⟨b', off', x', y', d', rfl, hbl', hx', q0', q1', q2'⟩ := (hr'.below hb).at3 hlt
        clear hr hr'
        go_wp2
        go_region_with ((go_at_call 24; refine (eqFeat_any _ _ _ _ _ _ _).mono ?_; rintro e w' ⟨rfl, hb2⟩))
        all_goals
          have hb3 : Below w.heap.size w w' := below_app hb.drew hb2 hb.size
          go_wp2
          · go_ret
            exact ⟨ret_bool (eqd_no.2 (ne_at hx.out hx'.out (eqd_no.1 (not_t ‹_›)))).symm, hb3⟩
          · exact ⟨⟨k + 1, by omega, by go_num, hb3, take_eq_step hw.out hx.out hx'.out (eqd_iff.1 (not_f ‹_›))⟩, by simp [intOf]; omega⟩
      · clear hr hr'
        go_wp2
        go_ret
        exact ⟨ret_bool (eqd_iff.2 (eq_end hw.out hl.out hl'.out (by omega))).symm, hb⟩
  · go_enter Tryd.func8, Tryd.ntmps8
    go_wp2
    go_ret
    exact ⟨ret_bool (eqd_no.2 (ne_len hl.out hl'.out hnn)).symm, Below.refl _ _⟩
theorem Tryd.feNeq (x y d x' y' d' : Int) (w : World) : (binOp .neq 50 (.agg #[.int .i64 x, .int .i64 y, .int .i64 d]) (.agg #[.int .i64 x', .int .i64 y', .int .i64 d'])).run Tryd.prog w = .ok (.bool (!eqd ((x, y, d) : T3) (x', y', d'))) w := by
  have h1 : Tryd.prog.underlying 50 = some (.struct (Tryd.prog.fieldsOf 50)) := by kernel_rfl
  have h2 : Tryd.prog.stoodInHeld 50 = false := by kernel_rfl
  rw [run_neq_struct, run_equalIn_agg _ _ _ _ _ h1 h2]
  simp [Program.fieldsOf, go_sem, eqd]
  split
  · split
    · split <;> simp_all
    · simp_all
  · simp_all
theorem Tryd.feGuard (op : BinOp) (x y : Operand) (xs ys : Array Value) (w : World) : (eqGuard op 50 x y (.agg xs) (.agg ys)).run Tryd.prog w = .ok () w :=
  run_eqGuard_agg w op _ x y xs ys (by kernel_rfl)
def featOk (f : T3) : Bool := featB f.1 f.2.1 f.2.2
/-- A valid list of at most 'most' features. -/
def featsOk (most : Int) (xs : List T3) : Bool := xs.all featOk && inB 1 most xs.length
theorem featsOk_in {n : Nat} {m : Int} {xs : List T3} (hl : xs.length = n) (h1 : 1 ≤ (n : Int)) (h2 : (n : Int) ≤ m) : featsOk m xs = xs.all featOk := by
  unfold featsOk; rw [hl, inB_iff.2 ⟨h1, h2⟩, Bool.and_true]
theorem featsOk_out {n : Nat} {m : Int} {xs : List T3} (hl : xs.length = n) (h : (n : Int) < 1 ∨ m < n) : featsOk m xs = false := by
  unfold featsOk; rw [hl, inB_no.2 h, Bool.and_false]
set_option maxHeartbeats 400000 in
theorem l08Ok_any (A : Option Addr) (n c : Nat) (xs : List T3) (w : World) (hr : RdL c3 3 w w.heap.size A n c xs) (hn : n ≤ 1048576) :
    Calls Tryd.prog 25 #[.slice A n c] w fun e w' => e = .returned (.bool (featsOk 384 xs)) ∧ Below w.heap.size w w' := by
  have hl := Lib.hid hr.len
  go_enter Tryd.func25, Tryd.ntmps25
  go_wp2
  go_loopw [3] (fun i wr => ∃ k : Nat, k ≤ n ∧ i = .int .i64 k ∧ Below w.heap.size w wr ∧ Hid ((xs.take k).all featOk = true)) (fun i _ => n - (intOf i).toNat)
  case atStart => exact ⟨0, by omega, rfl, Below.refl _ _, rfl⟩
  case round =>
    obtain ⟨k, hk, rfl, hb, hw⟩ := hrel
    by_cases hlt : k < n
    · obtain ⟨b, off, x, y, d, rfl, hbl, hx, q0, q1, q2⟩ := (hr.below hb).at3 hlt
      clear hr
      go_wp2_with (first | (go_at_call 44; refine (l08Feat_any _ _ _ _).mono ?_; rintro e w' ⟨rfl, hb2⟩))
      all_goals have hb3 : Below w.heap.size w w' := below_app hb hb2 hb.size
      · go_ret
        exact ⟨ret_bool (by unfold featsOk; rw [all_fail hx.out (show featOk (x, y, d) = false from not_t ‹_›)]; rfl), hb3⟩
      · exact ⟨⟨k + 1, by omega, by go_num, hb3, all_step hx.out hw.out (show featOk (x, y, d) = true from not_f ‹_›)⟩, by simp [intOf]; omega⟩
    · clear hr
      go_wp2_with (first | (go_at_call 45; refine (l00In_any _ _ _ _).mono ?_; rintro e w' ⟨rfl, rfl⟩))
      go_ret
      exact ⟨ret_bool (by unfold featsOk; rw [all_end (by have := hl.out; omega) hw.out, hl.out]; rfl), hb⟩
set_option maxHeartbeats 400000 in
theorem l09Ok_any (A : Option Addr) (n c : Nat) (xs : List T3) (w : World) (hr : RdL c3 3 w w.heap.size A n c xs) (hn : n ≤ 1048576) :
    Calls Tryd.prog 68 #[.slice A n c] w fun e w' => e = .returned (.bool (featsOk 72 xs)) ∧ Below w.heap.size w w' := by
  have hl := Lib.hid hr.len
  go_enter Tryd.func68, Tryd.ntmps68
  go_wp2
  go_loopw [3] (fun i wr => ∃ k : Nat, k ≤ n ∧ i = .int .i64 k ∧ Below w.heap.size w wr ∧ Hid ((xs.take k).all featOk = true)) (fun i _ => n - (intOf i).toNat)
  case atStart => exact ⟨0, by omega, rfl, Below.refl _ _, rfl⟩
  case round =>
    obtain ⟨k, hk, rfl, hb, hw⟩ := hrel
    by_cases hlt : k < n
    · obtain ⟨b, off, x, y, d, rfl, hbl, hx, q0, q1, q2⟩ := (hr.below hb).at3 hlt
      clear hr
      go_wp2_with (first | (go_at_call 83; refine (l09Feat_any _ _ _ _).mono ?_; rintro e w' ⟨rfl, hb2⟩))
      all_goals have hb3 : Below w.heap.size w w' := below_app hb hb2 hb.size
      · go_ret
        exact ⟨ret_bool (by unfold featsOk; rw [all_fail hx.out (show featOk (x, y, d) = false from not_t ‹_›)]; rfl), hb3⟩
      · exact ⟨⟨k + 1, by omega, by go_num, hb3, all_step hx.out hw.out (show featOk (x, y, d) = true from not_f ‹_›)⟩, by simp [intOf]; omega⟩
    · clear hr
      go_wp2_with (first | (go_at_call 45; refine (l00In_any _ _ _ _).mono ?_; rintro e w' ⟨rfl, rfl⟩))
      go_ret
      exact ⟨ret_bool (by unfold featsOk; rw [all_end (by have := hl.out; omega) hw.out, hl.out]; rfl), hb⟩
theorem notFeat_any (x y d : Int) (w : World) : Calls Tryd.prog 64 #[.agg #[.int .i64 x, .int .i64 y, .int .i64 d]] w fun e w' => e = .returned (.bool (!featB x y d)) ∧ Below w.heap.size w w' := by
  go_enter Tryd.func64, Tryd.ntmps64
  go_wp2_with (first | (go_at_call 65; refine (iValidFeat_any _ _ _ _).mono ?_; rintro e w' ⟨rfl, hb2⟩))
  go_ret
  exact ⟨rfl, below_app (B := w.heap.size) (by repeat (first | exact Below.refl _ _ | assumption | refine Below.drew ?_ | refine below_drewN ?_ _ | refine Below.alloc ?_ (by first | omega | (simp <;> omega)) _ | refine Below.setCell ?_ (by first | omega | (simp <;> omega)) _)) hb2 (by simp)⟩
set_option maxHeartbeats 400000 in
theorem idxFeat_any (A : Option Addr) (n c : Nat) (xs : List T3) (w : World) (hr : RdL c3 3 w w.heap.size A n c xs) (hn : n ≤ 1048576) :
    Calls Tryd.prog 80 #[.slice A n c, .func (.func 64) #[] #[]] w fun e w' => ∃ r : Int, e = .returned (.int .i64 r) ∧ Hid (decide (0 ≤ r) = !xs.all featOk) ∧ Below w.heap.size w w' := by
  have hl := Lib.hid hr.len
  go_enter Tryd.func80, Tryd.ntmps80
  go_wp2
  go_loopw [8] (fun i wr => ∃ k : Nat, k ≤ n ∧ i = .int .i64 k ∧ Below w.heap.size w wr ∧ Hid ((xs.take k).all featOk = true)) (fun i _ => n - (intOf i).toNat)
  case atStart => exact ⟨0, by omega, rfl, Below.refl _ _, rfl⟩
  case round =>
    obtain ⟨k, hk, rfl, hb, hw⟩ := hrel
    by_cases hlt : k < n
    · obtain ⟨b, off, x, y, d, rfl, hbl, hx, q0, q1, q2⟩ := (hr.below hb).at3 hlt
      clear hr
      go_wp2_with (first | (go_at_call 64; refine (notFeat_any _ _ _ _).mono ?_; rintro e w' ⟨rfl, hb2⟩))
      all_goals have hb3 : Below w.heap.size w w' := below_app hb hb2 hb.size
      · go_ret
        exact ⟨k, rfl, by unfold Hid; rw [all_fail hx.out (show featOk (x, y, d) = false from not_t ‹_›)]; simp, hb3⟩
      · exact ⟨⟨k + 1, by omega, by go_num, hb3, all_step hx.out hw.out (show featOk (x, y, d) = true from not_f ‹_›)⟩, by simp [intOf]; omega⟩
    · clear hr
      go_wp2
      go_ret
      exact ⟨-1, rfl, by unfold Hid; rw [all_end (by have := hl.out; omega) hw.out]; rfl, hb⟩
theorem contFeat_any (A : Option Addr) (n c : Nat) (xs : List T3) (w : World) (hr : RdL c3 3 w w.heap.size A n c xs) (hn : n ≤ 1048576) :
    Calls Tryd.prog 63 #[.slice A n c, .func (.func 64) #[] #[]] w fun e w' => e = .returned (.bool (!xs.all featOk)) ∧ Below w.heap.size w w' := by
  go_enter Tryd.func63, Tryd.ntmps63
  go_wp2_with fail
  refine (idxFeat_any A n c xs w hr hn).mono ?_
  rintro e w' ⟨r, rfl, hr1, hb⟩
  go_wp2
  go_ret
  exact ⟨ret_bool hr1.out, hb⟩
theorem areFeats_any (A : Option Addr) (n c : Nat) (m : Int) (xs : List T3) (w : World) (hr : RdL c3 3 w w.heap.size A n c xs) (hn : n ≤ 1048576) :
    Calls Tryd.prog 43 #[.slice A n c, .int .i64 m] w fun e w' => e = .returned (.bool (featsOk m xs)) ∧ Below w.heap.size w w' := by
  have hl := Lib.hid hr.len
  go_enter Tryd.func43, Tryd.ntmps43
  go_wp2_with (first | (go_at_call 63; refine (contFeat_any _ _ _ _ _ hr hn).mono ?_; rintro e w' ⟨rfl, hb2⟩))
  · go_ret
    exact ⟨ret_bool (featsOk_in hl.out ‹_› ‹_›).symm, hb2⟩
  · go_ret
    exact ⟨ret_bool (featsOk_out hl.out (.inr ‹_›)).symm, Below.refl _ _⟩
  · go_ret
    exact ⟨ret_bool (featsOk_out hl.out (.inl ‹_›)).symm, Below.refl _ _⟩
theorem iValidFeats_any (A : Option Addr) (n c : Nat) (xs : List T3) (w : World) (hr : RdL c3 3 w w.heap.size A n c xs) (hn : n ≤ 1048576) :
    Calls Tryd.prog 23 #[.slice A n c] w fun e w' => e = .returned (.bool (featsOk 384 xs)) ∧ Below w.heap.size w w' := by
  go_enter Tryd.func23, Tryd.ntmps23
  go_wp2_with (first | (go_at_call 43; refine (areFeats_any _ _ _ _ _ _ hr hn).mono ?_; rintro e w' ⟨rfl, hb⟩))
  go_ret
  exact ⟨rfl, hb⟩
theorem iValidSeq_any (A : Option Addr) (n c : Nat) (xs : List T3) (w : World) (hr : RdL c3 3 w w.heap.size A n c xs) (hn : n ≤ 1048576) :
    Calls Tryd.prog 72 #[.slice A n c] w fun e w' => e = .returned (.bool (featsOk 72 xs)) ∧ Below w.heap.size w w' := by
  go_enter Tryd.func72, Tryd.ntmps72
  go_wp2_with (first | (go_at_call 43; refine (areFeats_any _ _ _ _ _ _ hr hn).mono ?_; rintro e w' ⟨rfl, hb⟩))
  go_ret
  exact ⟨rfl, hb⟩
end Go.Proofs.YtnjifhlabbejoaaDoor
