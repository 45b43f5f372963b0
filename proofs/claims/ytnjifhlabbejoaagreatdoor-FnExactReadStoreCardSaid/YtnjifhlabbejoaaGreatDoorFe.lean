/- Contracts of the functions on slices of features: made, compared, tested, marked, read. -/
import Derived.Test.YtnjifhlabbejoaaGreatDoorSc
import Derived.Deep.QuietTactic
import Derived.BigQuiet
import Derived.Deep.RegionWith
namespace Go.Proofs.YtnjifhlabbejoaaGreatDoor
open Go.ChangeShapes Go.WideShapes Go.ChangeAt Go.RowKit

theorem Tryz.feInfo : (Tryz.prog.info? 60).map (fun i => (i.zero, i.size, i.bytes)) = some (some (.agg #[.int .i64 0, .int .i64 0, .int .i64 0]), 3, 24) := by kernel_rfl
set_option maxHeartbeats 400000 in
theorem eqFeatS_any (A A' : Option Addr) (n c n' c' : Nat) (xs ys : List T3) (w : World) (hr : RdL c3 3 w w.heap.size A n c xs) (hr' : RdL c3 3 w w.heap.size A' n' c' ys) (hn : n ≤ 1048576) :
    Calls Tryz.prog 60 #[.slice A n c, .slice A' n' c'] w fun e w' => e = .returned (.bool (eqd xs ys)) ∧ Below w.heap.size w w' := by
  have hl := Lib.hid hr.len
  have hl' := Lib.hid hr'.len
  by_cases hnn : n = n'
  · subst hnn
    go_enter Tryz.func60, Tryz.ntmps60
    go_wp2
    go_loopw [5] (fun i wr => ∃ k : Nat, k ≤ n ∧ i = .int .i64 k ∧ Below w.heap.size w wr ∧ Hid (xs.take k = ys.take k)) (fun i _ => n - (intOf i).toNat)
    case atStart => exact ⟨0, by omega, rfl, Below.refl _ _, rfl⟩
    case round =>
      obtain ⟨k, hk, rfl, hb, hw⟩ := hrel
      by_cases hlt : k < n
      · obtain ⟨b, off, x, y, d, rfl, hbl, hx, q0, q1, q2⟩ := (hr.below hb).at3 hlt
        obtain ⟨b', off', x', y', d', rfl, hbl', hx', q0', q1', q2'⟩ := (hr'.below hb).at3 hlt
        clear hr hr'
        go_wp2
        go_region_with ((go_at_call 78; refine (eqFeat_any _ _ _ _ _ _ _).mono ?_; rintro e w' ⟨rfl, hb2⟩))
        all_goals
          have hb3 : Below w.heap.size w w' := below_app hb.drew hb2 hb.size
          go_wp2
          · go_ret
            exact ⟨ret_bool (eqd_no.2 (ne_at hx.out hx'.out (eqd_no.1 (not_t ‹_›)))).symm, hb3⟩
          · exact ⟨⟨k + 1, by omega, by go_num, hb3, take_eq_step hw.out hx.out hx'.out (eqd_iff.1 (not_f ‹_›))⟩, by simp [intOf]; omega⟩
      · clear hr hr'
        go_wp2
        go_ret
        exact ⟨ret_bool (eqd_iff.2 (eq_end hw.out hl.out hl'.out (by omega))).symm, hb⟩
  · go_enter Tryz.func60, Tryz.ntmps60
    go_wp2
    go_ret
    exact ⟨ret_bool (eqd_no.2 (ne_len hl.out hl'.out hnn)).symm, Below.refl _ _⟩
theorem Tryz.feNeq (x y d x' y' d' : Int) (w : World) : (binOp .neq 60 (.agg #[.int .i64 x, .int .i64 y, .int .i64 d]) (.agg #[.int .i64 x', .int .i64 y', .int .i64 d'])).run Tryz.prog w = .ok (.bool (!eqd ((x, y, d) : T3) (x', y', d'))) w := by
  have h1 : Tryz.prog.underlying 60 = some (.struct (Tryz.prog.fieldsOf 60)) := by kernel_rfl
  have h2 : Tryz.prog.stoodInHeld 60 = false := by kernel_rfl
  rw [run_neq_struct, run_equalIn_agg _ _ _ _ _ h1 h2]
  simp [Program.fieldsOf, go_sem, eqd]
  split
  · split
    · split <;> simp_all
    · simp_all
  · simp_all
theorem Tryz.feGuard (op : BinOp) (x y : Operand) (xs ys : Array Value) (w : World) : (eqGuard op 60 x y (.agg xs) (.agg ys)).run Tryz.prog w = .ok () w :=
  run_eqGuard_agg w op _ x y xs ys (by kernel_rfl)
def featOk (f : T3) : Bool := featB f.1 f.2.1 f.2.2
/-- A valid list of at most 'most' features. -/
def featsOk (most : Int) (xs : List T3) : Bool := xs.all featOk && inB 1 most xs.length
theorem featsOk_in {n : Nat} {m : Int} {xs : List T3} (hl : xs.length = n) (h1 : 1 ≤ (n : Int)) (h2 : (n : Int) ≤ m) : featsOk m xs = xs.all featOk := by
  unfold featsOk; rw [hl, inB_iff.2 ⟨h1, h2⟩, Bool.and_true]
theorem featsOk_out {n : Nat} {m : Int} {xs : List T3} (hl : xs.length = n) (h : (n : Int) < 1 ∨ m < n) : featsOk m xs = false := by
  unfold featsOk; rw [hl, inB_no.2 h, Bool.and_false]
set_option maxHeartbeats 400000 in
theorem l09Ok_any (A : Option Addr) (n c : Nat) (xs : List T3) (w : World) (hr : RdL c3 3 w w.heap.size A n c xs) (hn : n ≤ 1048576) :
    Calls Tryz.prog 62 #[.slice A n c] w fun e w' => e = .returned (.bool (featsOk 72 xs)) ∧ Below w.heap.size w w' := by
  have hl := Lib.hid hr.len
  go_enter Tryz.func62, Tryz.ntmps62
  go_wp2
  go_loopw [3] (fun i wr => ∃ k : Nat, k ≤ n ∧ i = .int .i64 k ∧ Below w.heap.size w wr ∧ Hid ((xs.take k).all featOk = true)) (fun i _ => n - (intOf i).toNat)
  case atStart => exact ⟨0, by omega, rfl, Below.refl _ _, rfl⟩
  case round =>
    obtain ⟨k, hk, rfl, hb, hw⟩ := hrel
    by_cases hlt : k < n
    · obtain ⟨b, off, x, y, d, rfl, hbl, hx, q0, q1, q2⟩ := (hr.below hb).at3 hlt
      clear hr
      go_wp2_with (first | (go_at_call 80; refine (l09Feat_any _ _ _ _).mono ?_; rintro e w' ⟨rfl, hb2⟩))
      all_goals have hb3 : Below w.heap.size w w' := below_app hb hb2 hb.size
      · go_ret
        exact ⟨ret_bool (by unfold featsOk; rw [all_fail hx.out (show featOk (x, y, d) = false from not_t ‹_›)]; rfl), hb3⟩
      · exact ⟨⟨k + 1, by omega, by go_num, hb3, all_step hx.out hw.out (show featOk (x, y, d) = true from not_f ‹_›)⟩, by simp [intOf]; omega⟩
    · clear hr
      go_wp2_with (first | (go_at_call 46; refine (l00In_any _ _ _ _).mono ?_; rintro e w' ⟨rfl, rfl⟩))
      go_ret
      exact ⟨ret_bool (by unfold featsOk; rw [all_end (by have := hl.out; omega) hw.out, hl.out]; rfl), hb⟩
theorem notFeat_any (x y d : Int) (w : World) : Calls Tryz.prog 95 #[.agg #[.int .i64 x, .int .i64 y, .int .i64 d]] w fun e w' => e = .returned (.bool (!featB x y d)) ∧ Below w.heap.size w w' := by
  go_enter Tryz.func95, Tryz.ntmps95
  go_wp2_with (first | (go_at_call 96; refine (iValidFeat_any _ _ _ _).mono ?_; rintro e w' ⟨rfl, hb2⟩))
  go_ret
  exact ⟨rfl, below_app (B := w.heap.size) (by repeat (first | exact Below.refl _ _ | assumption | refine Below.drew ?_ | refine below_drewN ?_ _ | refine Below.alloc ?_ (by first | omega | (simp <;> omega)) _ | refine Below.setCell ?_ (by first | omega | (simp <;> omega)) _)) hb2 (by simp)⟩
set_option maxHeartbeats 400000 in
theorem idxFeat_any (A : Option Addr) (n c : Nat) (xs : List T3) (w : World) (hr : RdL c3 3 w w.heap.size A n c xs) (hn : n ≤ 1048576) :
    Calls Tryz.prog 110 #[.slice A n c, .func (.func 95) #[] #[]] w fun e w' => ∃ r : Int, e = .returned (.int .i64 r) ∧ Hid (decide (0 ≤ r) = !xs.all featOk) ∧ Below w.heap.size w w' := by
  have hl := Lib.hid hr.len
  go_enter Tryz.func110, Tryz.ntmps110
  go_wp2
  go_loopw [8] (fun i wr => ∃ k : Nat, k ≤ n ∧ i = .int .i64 k ∧ Below w.heap.size w wr ∧ Hid ((xs.take k).all featOk = true)) (fun i _ => n - (intOf i).toNat)
  case atStart => exact ⟨0, by omega, rfl, Below.refl _ _, rfl⟩
  case round =>
    obtain ⟨k, hk, rfl, hb, hw⟩ := hrel
    by_cases hlt : k < n
    · obtain ⟨b, off, x, y, d, rfl, hbl, hx, q0, q1, q2⟩ := (hr.below hb).at3 hlt
      clear hr
      go_wp2_with (first | (go_at_call 95; refine (notFeat_any _ _ _ _).mono ?_; rintro e w' ⟨rfl, hb2⟩))
      all_goals have hb3 : Below w.heap.size w w' := below_app hb hb2 hb.size
      · go_ret
        exact ⟨k, rfl, by unfold Hid; rw [all_fail hx.out (show featOk (x, y, d) = false from not_t ‹_›)]; simp, hb3⟩
      · exact ⟨⟨k + 1, by omega, by go_num, hb3, all_step hx.out hw.out (show featOk (x, y, d) = true from not_f ‹_›)⟩, by simp [intOf]; omega⟩
    · clear hr
      go_wp2
      go_ret
      exact ⟨-1, rfl, by unfold Hid; rw [all_end (by have := hl.out; omega) hw.out]; rfl, hb⟩
theorem contFeat_any (A : Option Addr) (n c : Nat) (xs : List T3) (w : World) (hr : RdL c3 3 w w.heap.size A n c xs) (hn : n ≤ 1048576) :
    Calls Tryz.prog 94 #[.slice A n c, .func (.func 95) #[] #[]] w fun e w' => e = .returned (.bool (!xs.all featOk)) ∧ Below w.heap.size w w' := by
  go_enter Tryz.func94, Tryz.ntmps94
  go_wp2_with fail
  refine (idxFeat_any A n c xs w hr hn).mono ?_
  rintro e w' ⟨r, rfl, hr1, hb⟩
  go_wp2
  go_ret
  exact ⟨ret_bool hr1.out, hb⟩
theorem areFeats_any (A : Option Addr) (n c : Nat) (m : Int) (xs : List T3) (w : World) (hr : RdL c3 3 w w.heap.size A n c xs) (hn : n ≤ 1048576) :
    Calls Tryz.prog 75 #[.slice A n c, .int .i64 m] w fun e w' => e = .returned (.bool (featsOk m xs)) ∧ Below w.heap.size w w' := by
  have hl := Lib.hid hr.len
  go_enter Tryz.func75, Tryz.ntmps75
  go_wp2_with (first | (go_at_call 94; refine (contFeat_any _ _ _ _ _ hr hn).mono ?_; rintro e w' ⟨rfl, hb2⟩))
  · go_ret
    exact ⟨ret_bool (featsOk_in hl.out ‹_› ‹_›).symm, hb2⟩
  · go_ret
    exact ⟨ret_bool (featsOk_out hl.out (.inr ‹_›)).symm, Below.refl _ _⟩
  · go_ret
    exact ⟨ret_bool (featsOk_out hl.out (.inl ‹_›)).symm, Below.refl _ _⟩
theorem iValidSeq_any (A : Option Addr) (n c : Nat) (xs : List T3) (w : World) (hr : RdL c3 3 w w.heap.size A n c xs) (hn : n ≤ 1048576) :
    Calls Tryz.prog 56 #[.slice A n c] w fun e w' => e = .returned (.bool (featsOk 72 xs)) ∧ Below w.heap.size w w' := by
  go_enter Tryz.func56, Tryz.ntmps56
  go_wp2_with (first | (go_at_call 75; refine (areFeats_any _ _ _ _ _ _ hr hn).mono ?_; rintro e w' ⟨rfl, hb⟩))
  go_ret
  exact ⟨rfl, hb⟩
end Go.Proofs.YtnjifhlabbejoaaGreatDoor
