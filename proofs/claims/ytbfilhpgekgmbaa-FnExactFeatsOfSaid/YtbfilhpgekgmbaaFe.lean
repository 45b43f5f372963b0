/- Contracts of the functions on slices of features: made, compared, tested, marked, read. -/
import Derived.Test.YtbfilhpgekgmbaaSc
import Derived.Deep.QuietTactic
import Derived.BigQuiet
import Derived.Deep.RegionWith
namespace Go.Proofs.Ytbfilhpgekgmbaa
open Go.ChangeShapes Go.WideShapes Go.ChangeAt Go.RowKit

theorem Try.feInfo : (Try.prog.info? 72).map (fun i => (i.zero, i.size, i.bytes)) = some (some (.agg #[.int .i64 0, .int .i64 0, .int .i64 0]), 3, 24) := by kernel_rfl
set_option maxHeartbeats 400000 in
theorem eqFeatS_any (A A' : Option Addr) (n c n' c' : Nat) (xs ys : List T3) (w : World) (hr : RdL c3 3 w w.heap.size A n c xs) (hr' : RdL c3 3 w w.heap.size A' n' c' ys) (hn : n ≤ 1048576) :
    Calls Try.prog 19 #[.slice A n c, .slice A' n' c'] w fun e w' => e = .returned (.bool (eqd xs ys)) ∧ Below w.heap.size w w' := by
  have hl := Lib.hid hr.len
  have hl' := Lib.hid hr'.len
  by_cases hnn : n = n'
  · subst hnn
    go_enter Try.func19, Try.ntmps19
    go_wp2
    go_loopw [5] (fun i wr => ∃ k : Nat, k ≤ n ∧ i = .int .i64 k ∧ Below w.heap.size w wr ∧ Hid (xs.take k = ys.take k)) (fun i _ => n - (intOf i).toNat)
    case atStart => exact ⟨0, by omega, rfl, Below.refl _ _, rfl⟩
    case round =>
      obtain ⟨k, hk, rfl, hb, hw⟩ := hrel
      by_cases hlt : k < n
      · obtain ⟨b, off, x, y, d, rfl, hbl, hx, q0, q1, q2⟩ := (hr.below hb).at3 hlt
        obtain ⟨b', off', x', y', d', rfl, hbl', hx', q0', q1', q2'⟩ := (hr'.below hb).at3 hlt
        clear hr hr'
        go_wp2
        go_region_with ((go_at_call 48; refine (eqFeat_any _ _ _ _ _ _ _).mono ?_; rintro e w' ⟨rfl, hb2⟩))
        all_goals
          have hb3 : Below w.heap.size w w' := below_app hb.drew hb2 hb.size
          go_wp2
          · go_ret
            exact ⟨ret_bool (eqd_no.2 (ne_at hx.out hx'.out (eqd_no.1 (not_t ‹_›)))).symm, hb3⟩
          · exact ⟨⟨k + 1, by omega, by go_num, hb3, take_eq_step hw.out hx.out hx'.out (eqd_iff.1 (not_f ‹_›))⟩, by simp [intOf]; omega⟩
      · clear hr hr'
        go_wp2
        go_ret
        exact ⟨ret_bool (eqd_iff.2 (eq_end hw.out hl.out hl'.out (by omega))).symm, hb⟩
  · go_enter Try.func19, Try.ntmps19
    go_wp2
    go_ret
    exact ⟨ret_bool (eqd_no.2 (ne_len hl.out hl'.out hnn)).symm, Below.refl _ _⟩
theorem Try.feNeq (x y d x' y' d' : Int) (w : World) : (binOp .neq 72 (.agg #[.int .i64 x, .int .i64 y, .int .i64 d]) (.agg #[.int .i64 x', .int .i64 y', .int .i64 d'])).run Try.prog w = .ok (.bool (!eqd ((x, y, d) : T3) (x', y', d'))) w := by
  have h1 : Try.prog.underlying 72 = some (.struct (Try.prog.fieldsOf 72)) := by kernel_rfl
  have h2 : Try.prog.stoodInHeld 72 = false := by kernel_rfl
  rw [run_neq_struct, run_equalIn_agg _ _ _ _ _ h1 h2]
  simp [Program.fieldsOf, go_sem, eqd]
  split
  · split
    · split <;> simp_all
    · simp_all
  · simp_all
theorem Try.feGuard (op : BinOp) (x y : Operand) (xs ys : Array Value) (w : World) : (eqGuard op 72 x y (.agg xs) (.agg ys)).run Try.prog w = .ok () w :=
  run_eqGuard_agg w op _ x y xs ys (by kernel_rfl)
def featOk (f : T3) : Bool := featB f.1 f.2.1 f.2.2
/-- A valid list of at most 'most' features. -/
def featsOk (most : Int) (xs : List T3) : Bool := xs.all featOk && inB 1 most xs.length
theorem featsOk_in {n : Nat} {m : Int} {xs : List T3} (hl : xs.length = n) (h1 : 1 ≤ (n : Int)) (h2 : (n : Int) ≤ m) : featsOk m xs = xs.all featOk := by
  unfold featsOk; rw [hl, inB_iff.2 ⟨h1, h2⟩, Bool.and_true]
theorem featsOk_out {n : Nat} {m : Int} {xs : List T3} (hl : xs.length = n) (h : (n : Int) < 1 ∨ m < n) : featsOk m xs = false := by
  unfold featsOk; rw [hl, inB_no.2 h, Bool.and_false]
end Go.Proofs.Ytbfilhpgekgmbaa
