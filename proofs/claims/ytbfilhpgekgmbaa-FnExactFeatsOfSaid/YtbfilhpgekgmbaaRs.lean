/- Resample. -/
import Derived.Test.YtbfilhpgekgmbaaSa
namespace Go.Proofs.Ytbfilhpgekgmbaa
open Go.ChangeShapes Go.WideShapes Go.ChangeAt Go.RowKit
def resAt (xs : List T3) (m : Nat) (k : Nat) : T2 := spotV xs k ((m : Int) - 1)
def resN (xs : List T3) (m k : Nat) : List T2 := (List.range k).map (resAt xs m)
def resE (xs : List T3) (m : Int) : Int := if strokeB xs = true then (if inB 2 24 m = true then 0 else 2) else 1
def resL (xs : List T3) (m : Int) : List T2 := if (strokeB xs && inB 2 24 m) = true then resN xs m.toNat m.toNat else []
theorem resN_len (xs : List T3) (m k : Nat) : (resN xs m k).length = k := by simp [resN]
theorem resN_step (xs : List T3) (m k : Nat) : resN xs m (k + 1) = resN xs m k ++ [resAt xs m k] := by simp [resN, List.range_succ]
theorem res_bad {xs : List T3} {m : Int} (h : strokeB xs = false) : resL xs m = [] ∧ resE xs m = 1 := by unfold resL resE; rw [h]; exact ⟨rfl, rfl⟩
theorem res_far {xs : List T3} {m : Int} (h : strokeB xs = true) (h2 : inB 2 24 m = false) : resL xs m = [] ∧ resE xs m = 2 := by unfold resL resE; rw [h, h2]; exact ⟨rfl, rfl⟩
theorem res_ok {xs : List T3} {m : Int} (h : strokeB xs = true) (h2 : inB 2 24 m = true) : resL xs m = resN xs m.toNat m.toNat ∧ resE xs m = 0 := by unfold resL resE; rw [h, h2]; exact ⟨rfl, rfl⟩
set_option maxRecDepth 100000 in
set_option maxHeartbeats 8000000 in
theorem resample_any (A : Option Addr) (n c : Nat) (xs : List T3) (m : Nat) (w : World) (hr : RdL c3 3 w w.heap.size A n c xs) (hok : strokeB xs = true) (h2 : 2 ≤ m) (h24 : m ≤ 24) :
    Calls Try.prog 72 #[.agg #[.slice A n c], .int .i64 (m : Int)] w fun e w' => ∃ A' c', e = .returned (.slice A' m c') ∧ w'.ownsRow w.heap.size 96 2 (.slice A' m c') m ((resN xs m m).flatMap c2) ∧ Below w.heap.size w w' := by
  obtain ⟨i0, hi, hz0, hz1, hz2⟩ := info_parts Try.infoSpot
  have hl := Lib.hid hr.len
  have Hok := Lib.hid hok
  clear hok
  go_enter Try.func72, Try.ntmps72
  go_wp2_with fail
  have K0 := Blk.new (w) 52 #[.slice A n c]
  have hbv : Below (w).heap.size (w) ((w).alloc (.cells #[.slice A n c] 52)) := (Below.refl _ _).alloc (Nat.le_refl _) _
  replace hr := hr.on hbv
  generalize (w).alloc (.cells #[.slice A n c] 52) = v at *
  have hB := hbv
  have e0 := K0.cell 0
  simp only [List.getElem?_toArray, List.getElem?_cons_zero] at e0
  go_wp2_with fail
  with_reducible refine (arcsOf_any _ _ _ xs _ hr Hok.out).mono ?_
  rintro e w1 ⟨A2, d2, rfl, o2, hbw1⟩
  replace K0 := K0.on hbw1
  replace hr := hr.on hbw1
  replace hB := below_on hbw1 hB
  have hr2 := RdL.of_own (show (arcsN xs n).length = n by rw [arcsN_len]) o2
  clear e0 o2 hbw1
  go_wp2
  go_loopw [6, 7] (fun v i wr => ∃ (k c' : Nat) (A' : Option Addr), k ≤ m ∧ i = .int .i64 k ∧ v = .slice A' k c' ∧ Below w1.heap.size w1 wr ∧ wr.ownsRow w1.heap.size 96 2 (.slice A' k c') k ((resN xs m k).flatMap c2)) (fun _ i _ => m - (intOf i).toNat)
  case atStart => exact ⟨0, 0, _, by omega, rfl, rfl, (by repeat (first | exact Below.refl _ _ | assumption | refine Below.drew ?_ | refine below_drewN ?_ _ | refine Below.alloc ?_ (by first | omega | (simp <;> omega)) _ | refine Below.setCell ?_ (by first | omega | (simp <;> omega)) _)), World.ownsRow_nil _ _ _ _⟩
  case round =>
    obtain ⟨k, c', A', hk, rfl, rfl, hb, hw⟩ := hrel
    have K1 := K0.on hb
    have e0 := K1.cell 0
    simp only [List.getElem?_toArray, List.getElem?_cons_zero] at e0
    by_cases hlt : k < m
    · have i1 : (k : Int) < (m : Int) := by omega
      have i3 : IntKind.i64.wrap ((m : Int) - 1) = (m : Int) - 1 := IntWalk.i64_in _ (by omega)
      have hr3 := hr.on hb
      have hr4 := hr2.on hb
      have HR3 := Lib.hid hr3
      have HR4 := Lib.hid hr4
      clear hr hr2 hr3 hr4
      go_wp2_with fail
      with_reducible refine (spotAt_any _ _ _ xs _ _ k _ _ HR3.out HR4.out Hok.out (by omega) (by omega) (by omega) (by omega)).mono ?_
      rintro e w2 ⟨rfl, hbw2⟩
      replace hw := own_below hw hbw2
      replace hb := below_on hbw2 hb
      clear e0 K1 HR3 HR4
      have z3 := hb.size
      go_wp2_with (at_builtin; with_reducible refine app_one _ c2_len one2 rfl (.tmp 15) (.tmp 22) 93 rfl w1.heap.size 96 i0 _ Try.underlying93 hi hz0 hz1 hz2 rfl (by decide) (by decide) A' k c' _ rfl (hw.alloc _) w2.heap.size 1 (spotV xs k ((m : Int) - 1)) rfl ?_ (by omega) ?_ ?_)
      · exact news2 (Cell2.new _ _ _ _)
      · simp; omega
      · intro A3 c3' w3 hw3 hbw3
        have hb3 : Below w1.heap.size w1 w3 := (hb.alloc hb.size _).trans hbw3
        clear hw hb hbw3
        go_wp2
        refine ⟨⟨k + 1, c3', A3, by omega, by go_num, rfl, hb3, ?_⟩, by simp [intOf]; omega⟩
        rw [resN_step, flat_snoc]; exact hw3
    · have hkn : k = m := by omega
      subst hkn
      clear hr hr2
      have HW := Lib.hid hw
      clear hw
      go_wp2
      go_ret
      exact ⟨A', c', rfl, own_mono HW.out hB.size, below_on hb hB⟩
set_option maxRecDepth 100000 in
set_option maxHeartbeats 8000000 in
theorem l06Resample_ptr (A : Option Addr) (n c : Nat) (xs : List T3) (m : Nat) (w : World) (g0 oo : Nat) (K0 : Cel w g0 oo (.slice A n c)) (hr : RdL c3 3 w w.heap.size A n c xs) (hok : strokeB xs = true) (h2 : 2 ≤ m) (h24 : m ≤ 24) :
    Calls Try.prog 83 #[.pointer (some ⟨g0, oo, none⟩), .int .i64 (m : Int)] w fun e w' => ∃ A' c', e = .returned (.slice A' m c') ∧ w'.ownsRow w.heap.size 96 2 (.slice A' m c') m ((resN xs m m).flatMap c2) ∧ Below w.heap.size w w' := by
  obtain ⟨i0, hi, hz0, hz1, hz2⟩ := info_parts Try.infoSpot
  have hl := Lib.hid hr.len
  have Hok := Lib.hid hok
  clear hok
  go_enter Try.func83, Try.ntmps83
  go_wp2_with fail
  have hB : Below w.heap.size w w := Below.refl _ _
  obtain ⟨v, hv⟩ : ∃ v, v = w := ⟨w, rfl⟩
  rw [← hv] at K0 hr
  conv at hB => rhs; rw [← hv]
  rw [← hv]
  with_reducible refine (l06Arcs_ptr _ _ _ xs _ _ _ K0 hr Hok.out).mono ?_
  rintro e w1 ⟨A2, d2, rfl, o2, hbw1⟩
  replace K0 := K0.on hbw1
  replace hr := hr.on hbw1
  replace hB := below_on hbw1 hB
  have hr2 := RdL.of_own (show (arcsN xs n).length = n by rw [arcsN_len]) o2
  clear o2 hbw1
  go_wp2
  go_loopw [6, 7] (fun v i wr => ∃ (k c' : Nat) (A' : Option Addr), k ≤ m ∧ i = .int .i64 k ∧ v = .slice A' k c' ∧ Below w1.heap.size w1 wr ∧ wr.ownsRow w1.heap.size 96 2 (.slice A' k c') k ((resN xs m k).flatMap c2)) (fun _ i _ => m - (intOf i).toNat)
  case atStart => exact ⟨0, 0, _, by omega, rfl, rfl, (by repeat (first | exact Below.refl _ _ | assumption | refine Below.drew ?_ | refine below_drewN ?_ _ | refine Below.alloc ?_ (by first | omega | (simp <;> omega)) _ | refine Below.setCell ?_ (by first | omega | (simp <;> omega)) _)), by simpa [resN] using World.ownsRow_lit (base := w1.heap.size) (e := 96) (size := 2) w1 #[] 0 (Nat.le_refl _) (by simp [maxLen]) rfl⟩
  case round =>
    obtain ⟨k, c', A', hk, rfl, rfl, hb, hw⟩ := hrel
    have K1 := K0.on hb
    have e0 := K1.cell
    by_cases hlt : k < m
    · have i1 : (k : Int) < (m : Int) := by omega
      have i3 : IntKind.i64.wrap ((m : Int) - 1) = (m : Int) - 1 := IntWalk.i64_in _ (by omega)
      have hr3 := hr.on hb
      have hr4 := hr2.on hb
      have HR3 := Lib.hid hr3
      have HR4 := Lib.hid hr4
      clear hr hr2 hr3 hr4
      go_wp2_with fail
      with_reducible refine (l06At_any _ _ _ xs _ _ k _ _ _ _ K1 HR3.out HR4.out Hok.out (by omega) (by omega) (by omega) (by omega)).mono ?_
      rintro e w2 ⟨rfl, hbw2⟩
      replace hw := own_below hw hbw2
      replace hb := below_on hbw2 hb
      clear e0 K1 HR3 HR4
      have z3 := hb.size
      go_wp2_with (at_builtin; with_reducible refine app_one _ c2_len one2 rfl (.tmp 16) (.tmp 23) 93 rfl w1.heap.size 96 i0 _ Try.underlying93 hi hz0 hz1 hz2 rfl (by decide) (by decide) A' k c' _ rfl (hw.alloc _) w2.heap.size 1 (spotV xs k ((m : Int) - 1)) rfl ?_ (by omega) ?_ ?_)
      · exact news2 (Cell2.new _ _ _ _)
      · simp; omega
      · intro A3 c3' w3 hw3 hbw3
        have hb3 : Below w1.heap.size w1 w3 := (hb.alloc hb.size _).trans hbw3
        clear hw hb hbw3
        go_wp2
        refine ⟨⟨k + 1, c3', A3, by omega, by go_num, rfl, hb3, ?_⟩, by simp [intOf]; omega⟩
        rw [resN_step, flat_snoc]; exact hw3
    · have hkn : k = m := by omega
      subst hkn
      clear hr hr2
      have HW := Lib.hid hw
      clear hw
      go_wp2
      go_ret
      exact ⟨A', c', rfl, own_mono HW.out hB.size, below_on hb hB⟩
end Go.Proofs.Ytbfilhpgekgmbaa
