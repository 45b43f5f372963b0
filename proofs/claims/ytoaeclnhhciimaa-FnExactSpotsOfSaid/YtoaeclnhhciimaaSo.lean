/- Contracts of SpotsOf. -/
import Derived.Test.YtoaeclnhhciimaaSk
import Derived.Test.YtoaeclnhhciimaaFlSpot
namespace Go.Proofs.Ytoaeclnhhciimaa
open Go.ChangeShapes Go.WideShapes Go.ChangeAt Go.RowKit
def spotP (p : T3) : T2 := (p.1, p.2.1)
def spotsV (xs : List T3) : List T2 := okL (strokeB xs) (xs.map spotP)
def strE (xs : List T3) : Int := okE (strokeB xs)
theorem spotOf_any (x y t : Int) (w : World) : Calls Try.prog 90 #[.agg #[.int .i64 x, .int .i64 y, .int .i64 t]] w fun e w' => e = .returned (.agg #[.int .i64 x, .int .i64 y]) ∧ Below w.heap.size w w' := by
  go_enter Try.func90, Try.ntmps90
  go_wp2
  exact bodyPost_ret (v := .agg #[.int .i64 x, .int .i64 y]) (by simp [results, Try.results90, go_sem]) rfl ⟨rfl, (by repeat (first | exact Below.refl _ _ | assumption | refine Below.drew ?_ | refine below_drewN ?_ _ | refine Below.alloc ?_ (by first | omega | (simp <;> omega)) _ | refine Below.setCell ?_ (by first | omega | (simp <;> omega)) _))⟩
theorem l06Spot_any (x y t : Int) (w : World) : Calls Try.prog 87 #[.agg #[.int .i64 x, .int .i64 y, .int .i64 t]] w fun e w' => e = .returned (.agg #[.int .i64 x, .int .i64 y]) ∧ Below w.heap.size w w' := by
  go_enter Try.func87, Try.ntmps87
  go_wp2
  exact bodyPost_ret (v := .agg #[.int .i64 x, .int .i64 y]) (by simp [results, Try.results87, go_sem]) rfl ⟨rfl, (by repeat (first | exact Below.refl _ _ | assumption | refine Below.drew ?_ | refine below_drewN ?_ _ | refine Below.alloc ?_ (by first | omega | (simp <;> omega)) _ | refine Below.setCell ?_ (by first | omega | (simp <;> omega)) _))⟩
set_option maxHeartbeats 4000000 in
theorem iSpots_any (A : Option Addr) (n c : Nat) (xs : List T3) (w : World) (hr : RdL c3 3 w w.heap.size A n c xs) (hn : n ≤ 1048576) :
    Calls Try.prog 36 #[.agg #[.slice A n c]] w fun e w' => ∃ A' n' c', e = .returned (.tuple #[.slice A' n' c', .int .i64 (strE xs)]) ∧ w'.ownsRow w.heap.size 98 2 (.slice A' n' c') n' ((spotsV xs).flatMap c2) ∧
      (spotsV xs).length = n' ∧ n' ≤ 1048576 ∧ Below w.heap.size w w' := by
  obtain ⟨i0, hi, hz0, hz1, hz2⟩ := info_parts Try.infoSpot
  have hl := Lib.hid hr.len
  cases hok : strokeB xs with
  | false =>
    have F : Hid (spotsV xs = [] ∧ strE xs = 1) := by unfold Hid spotsV strE okL okE; rw [hok, if_neg (by decide), if_neg (by decide)]; exact ⟨rfl, rfl⟩
    go_enter Try.func36, Try.ntmps36
    go_wp2_with fail
    have K0 := Blk.new (w) 56 #[.slice A n c]
    have hbv : Below (w).heap.size (w) ((w).alloc (.cells #[.slice A n c] 56)) := (Below.refl _ _).alloc (Nat.le_refl _) _
    replace hr := hr.on hbv
    generalize (w).alloc (.cells #[.slice A n c] 56) = v at *
    with_reducible refine (iValidStroke_any _ _ _ xs _ hr hn).mono ?_
    rintro e w1 ⟨rfl, hbw1⟩
    go_wp2
    go_ret2
    rw [F.out.1, F.out.2]
    exact ⟨none, 0, 0, rfl, World.ownsRow_nil _ _ _ _, rfl, by decide, below_on hbw1 hbv⟩
  | true =>
    have F : Hid (spotsV xs = xs.map spotP ∧ strE xs = 0) := by unfold Hid spotsV strE okL okE; rw [hok, if_pos rfl, if_pos rfl]; exact ⟨rfl, rfl⟩
    have hle := strokeB_len hok
    rw [hr.len] at hle
    go_enter Try.func36, Try.ntmps36
    go_wp2_with fail
    have K0 := Blk.new (w) 56 #[.slice A n c]
    have hbv : Below (w).heap.size (w) ((w).alloc (.cells #[.slice A n c] 56)) := (Below.refl _ _).alloc (Nat.le_refl _) _
    replace hr := hr.on hbv
    generalize (w).alloc (.cells #[.slice A n c] 56) = v at *
    with_reducible refine (iValidStroke_any _ _ _ xs _ hr hn).mono ?_
    rintro e w1 ⟨rfl, hbw1⟩
    have hB := below_on hbw1 hbv
    replace K0 := K0.on hbw1
    replace hr := hr.on hbw1
    have e0 := K0.cell 0
    simp only [List.getElem?_toArray, List.getElem?_cons_zero] at e0
    clear hok
    have hok' : strokeB xs = true := by have := F.out.2; unfold strE okE at this; split at this <;> simp_all
    go_wp2
    clear hok' e0
    go_loopw [4, 13] (fun v i wr => ∃ (k c' : Nat) (A' : Option Addr), k ≤ n ∧ i = .int .i64 k ∧ v = .slice A' k c' ∧ Below w1.heap.size w1 wr ∧ wr.ownsRow w1.heap.size 98 2 (.slice A' k c') k (((xs.take k).map spotP).flatMap c2)) (fun _ i _ => n - (intOf i).toNat)
    case atStart => exact ⟨0, 0, _, by omega, rfl, rfl, (by repeat (first | exact Below.refl _ _ | assumption | refine Below.drew ?_ | refine below_drewN ?_ _ | refine Below.alloc ?_ (by first | omega | (simp <;> omega)) _ | refine Below.setCell ?_ (by first | omega | (simp <;> omega)) _)), World.ownsRow_nil _ _ _ _⟩
    case round =>
      obtain ⟨k, c', A', hk, rfl, rfl, hb, hw⟩ := hrel
      have K1 := K0.on hb
      have e0 := K1.cell 0
      simp only [List.getElem?_toArray, List.getElem?_cons_zero] at e0
      by_cases hlt : k < n
      · obtain ⟨b, off, x, y, t, rfl, hbl, hx, q0, q1, q2⟩ := (hr.below hb).at3 hlt
        have i1 : (k : Int) < (n : Int) := by omega
        have i2 : (0 : Int) ≤ (k : Int) := by omega
        have zk := K1.lt
        clear hr
        go_wp2_with fail
        have P0 := Blk.new (wr) 114 #[.int .i64 x, .int .i64 y, .int .i64 t]
        have hbwa : Below (wr).heap.size (wr) ((wr).alloc (.cells #[.int .i64 x, .int .i64 y, .int .i64 t] 114)) := (Below.refl _ _).alloc (Nat.le_refl _) _
        generalize (wr).alloc (.cells #[.int .i64 x, .int .i64 y, .int .i64 t] 114) = wa at *
        with_reducible refine (spotOf_any x y t _).mono ?_
        rintro e w2 ⟨rfl, hbw2⟩
        replace hw := own_below (own_below hw hbwa) hbw2
        replace hb := below_on hbw2 (below_on hbwa hb)
        clear q0 q1 q2 e0 zk
        have z3 := hb.size
        go_wp2_with (at_builtin; with_reducible refine app_one _ c2_len one2 rfl (.tmp 17) (.tmp 20) 37 rfl w1.heap.size 98 i0 _ Try.underlying37 hi hz0 hz1 hz2 rfl (by decide) (by decide) A' k c' _ rfl (hw.alloc _) w2.heap.size 1 (spotP (x, y, t)) rfl ?_ (by omega) ?_ ?_)
        · exact news2 (Cell2.new _ _ _ _)
        · simp; omega
        · intro A2 c2' w3 hw3 hbw3
          have hb3 : Below w1.heap.size w1 w3 := (hb.alloc hb.size _).trans hbw3
          clear hw hb hbw3
          go_wp2
          refine ⟨⟨k + 1, c2', A2, by omega, by go_num, rfl, hb3, ?_⟩, by simp [intOf]; omega⟩
          simpa [map_step hx.out, flat_snoc, List.map_take] using hw3
      · have hkn : k = n := by omega
        subst hkn
        clear hr
        go_wp2
        go_ret2
        rw [List.take_of_length_le (by have := hl.out; omega)] at hw
        rw [F.out.1, F.out.2]
        exact ⟨A', k, c', rfl, own_mono hw hB.size, by rw [List.length_map]; exact hl.out, by omega, below_on hb hB⟩
set_option maxHeartbeats 4000000 in
theorem sSpots_any (A : Option Addr) (n c : Nat) (xs : List T3) (w : World) (hr : RdL c3 3 w w.heap.size A n c xs) (hn : n ≤ 1048576) :
    Calls Try.prog 34 #[.agg #[.slice A n c]] w fun e w' => ∃ A' n' c', e = .returned (.tuple #[.slice A' n' c', .int .i64 (strE xs)]) ∧ w'.ownsRow w.heap.size 98 2 (.slice A' n' c') n' ((spotsV xs).flatMap c2) ∧
      (spotsV xs).length = n' ∧ n' ≤ 1048576 ∧ Below w.heap.size w w' := by
  obtain ⟨i0, hi, hz0, hz1, hz2⟩ := info_parts Try.infoSpot
  have hl := Lib.hid hr.len
  cases hok : strokeB xs with
  | false =>
    have F : Hid (spotsV xs = [] ∧ strE xs = 1) := by unfold Hid spotsV strE okL okE; rw [hok, if_neg (by decide), if_neg (by decide)]; exact ⟨rfl, rfl⟩
    go_enter Try.func34, Try.ntmps34
    go_wp2_with fail
    have K0 := Blk.new (w) 56 #[.slice A n c]
    have hbv : Below (w).heap.size (w) ((w).alloc (.cells #[.slice A n c] 56)) := (Below.refl _ _).alloc (Nat.le_refl _) _
    replace hr := hr.on hbv
    generalize (w).alloc (.cells #[.slice A n c] 56) = v at *
    with_reducible refine (l02Stroke_any _ _ _ xs _ _ _ K0 hr hn).mono ?_
    rintro e w1 ⟨rfl, hbw1⟩
    go_wp2
    go_ret2
    rw [F.out.1, F.out.2]
    exact ⟨none, 0, 0, rfl, World.ownsRow_nil _ _ _ _, rfl, by decide, below_on hbw1 hbv⟩
  | true =>
    have F : Hid (spotsV xs = xs.map spotP ∧ strE xs = 0) := by unfold Hid spotsV strE okL okE; rw [hok, if_pos rfl, if_pos rfl]; exact ⟨rfl, rfl⟩
    have hle := strokeB_len hok
    rw [hr.len] at hle
    go_enter Try.func34, Try.ntmps34
    go_wp2_with fail
    have K0 := Blk.new (w) 56 #[.slice A n c]
    have hbv : Below (w).heap.size (w) ((w).alloc (.cells #[.slice A n c] 56)) := (Below.refl _ _).alloc (Nat.le_refl _) _
    replace hr := hr.on hbv
    generalize (w).alloc (.cells #[.slice A n c] 56) = v at *
    with_reducible refine (l02Stroke_any _ _ _ xs _ _ _ K0 hr hn).mono ?_
    rintro e w1 ⟨rfl, hbw1⟩
    have hB := below_on hbw1 hbv
    replace K0 := K0.on hbw1
    replace hr := hr.on hbw1
    have e0 := K0.cell 0
    simp only [List.getElem?_toArray, List.getElem?_cons_zero] at e0
    clear hok
    have hok' : strokeB xs = true := by have := F.out.2; unfold strE okE at this; split at this <;> simp_all
    go_wp2
    clear hok' e0
    go_loopw [4, 5] (fun v i wr => ∃ (k c' : Nat) (A' : Option Addr), k ≤ n ∧ i = .int .i64 k ∧ v = .slice A' k c' ∧ Below w1.heap.size w1 wr ∧ wr.ownsRow w1.heap.size 98 2 (.slice A' k c') k (((xs.take k).map spotP).flatMap c2)) (fun _ i _ => n - (intOf i).toNat)
    case atStart => exact ⟨0, 0, _, by omega, rfl, rfl, (by repeat (first | exact Below.refl _ _ | assumption | refine Below.drew ?_ | refine below_drewN ?_ _ | refine Below.alloc ?_ (by first | omega | (simp <;> omega)) _ | refine Below.setCell ?_ (by first | omega | (simp <;> omega)) _)), by simpa using World.ownsRow_lit (base := w1.heap.size) (e := 98) (size := 2) w1 #[] 0 (Nat.le_refl _) (by simp [maxLen]) rfl⟩
    case round =>
      obtain ⟨k, c', A', hk, rfl, rfl, hb, hw⟩ := hrel
      have K1 := K0.on hb
      have e0 := K1.cell 0
      simp only [List.getElem?_toArray, List.getElem?_cons_zero] at e0
      by_cases hlt : k < n
      · obtain ⟨b, off, x, y, t, rfl, hbl, hx, q0, q1, q2⟩ := (hr.below hb).at3 hlt
        have i1 : (k : Int) < (n : Int) := by omega
        have i2 : (0 : Int) ≤ (k : Int) := by omega
        have zk := K1.lt
        clear hr
        go_wp2_with fail
        have hbwa : Below wr.heap.size wr wr := Below.refl _ _
        with_reducible refine (l06Spot_any x y t _).mono ?_
        rintro e w2 ⟨rfl, hbw2⟩
        replace hw := own_below (own_below hw hbwa) hbw2
        replace hb := below_on hbw2 (below_on hbwa hb)
        clear q0 q1 q2 e0 zk
        have z3 := hb.size
        go_wp2_with (at_builtin; with_reducible refine app_one _ c2_len one2 rfl (.tmp 16) (.tmp 23) 37 rfl w1.heap.size 98 i0 _ Try.underlying37 hi hz0 hz1 hz2 rfl (by decide) (by decide) A' k c' _ rfl (hw.alloc _) w2.heap.size 1 (spotP (x, y, t)) rfl ?_ (by omega) ?_ ?_)
        · exact news2 (Cell2.new _ _ _ _)
        · simp; omega
        · intro A2 c2' w3 hw3 hbw3
          have hb3 : Below w1.heap.size w1 w3 := (hb.alloc hb.size _).trans hbw3
          clear hw hb hbw3
          go_wp2
          refine ⟨⟨k + 1, c2', A2, by omega, by go_num, rfl, hb3, ?_⟩, by simp [intOf]; omega⟩
          simpa [map_step hx.out, flat_snoc, List.map_take] using hw3
      · have hkn : k = n := by omega
        subst hkn
        clear hr
        go_wp2
        go_ret2
        rw [List.take_of_length_le (by have := hl.out; omega)] at hw
        rw [F.out.1, F.out.2]
        exact ⟨A', k, c', rfl, own_mono hw hB.size, by rw [List.length_map]; exact hl.out, by omega, below_on hb hB⟩
end Go.Proofs.Ytoaeclnhhciimaa
