/- Contracts of NormalSpots. -/
import Derived.Test.YtoaeclnhhciimaaNs
import Derived.StillTailTactics
namespace Go.Proofs.Ytoaeclnhhciimaa
open Go.ChangeShapes Go.WideShapes Go.ChangeAt Go.RowKit
def nsV (xs : List T2) (b : T4) : List T2 := if (boxOk b && xs.all (inBox · b)) = true then xs.map (nrmB · b) else []
def nsE (xs : List T2) (b : T4) : Int := if boxOk b = true then (if xs.all (inBox · b) = true then 0 else 2) else 1
theorem ns_bad {xs : List T2} {b : T4} (h : boxOk b = false) : nsV xs b = [] ∧ nsE xs b = 1 := by
  unfold nsV nsE; rw [h, Bool.false_and, if_neg (by decide), if_neg (by decide)]; exact ⟨rfl, rfl⟩
theorem ns_out {xs : List T2} {b : T4} {k : Nat} {p : T2} (h : boxOk b = true) (hx : xs[k]? = some p) (hp : inBox p b = false) : nsV xs b = [] ∧ nsE xs b = 2 := by
  unfold nsV nsE; rw [h, Bool.true_and, if_pos rfl, all_fail (p := (inBox · b)) hx hp, if_neg (by decide), if_neg (by decide)]; exact ⟨rfl, rfl⟩
theorem ns_good {xs : List T2} {b : T4} (h : boxOk b = true) (hx : xs.all (inBox · b) = true) : nsV xs b = xs.map (nrmB · b) ∧ nsE xs b = 0 := by
  unfold nsV nsE; rw [h, Bool.true_and, if_pos rfl, if_pos hx, if_pos hx]; exact ⟨rfl, rfl⟩
theorem inBox_x {x y a b c d : Int} (h : inB a c x = false) : inBox (x, y) (a, b, c, d) = false := by unfold inBox; simp only [h]; rfl
theorem inBox_y {x y a b c d : Int} (h : inB b d y = false) : inBox (x, y) (a, b, c, d) = false := by unfold inBox; simp only [h, Bool.and_false]
theorem inBox_xy {x y a b c d : Int} (h : inB a c x = true) (h' : inB b d y = true) : inBox (x, y) (a, b, c, d) = true := by unfold inBox; simp only [h, h']; rfl
set_option maxRecDepth 100000 in
set_option maxHeartbeats 4000000 in
theorem iNormal_any (A : Option Addr) (n cp : Nat) (xs : List T2) (a b c d : Int) (w : World) (hr : RdL c2 2 w w.heap.size A n cp xs) (hn : n ≤ 1048576) :
    Calls Try.prog 30 #[.slice A n cp, .agg #[.int .i64 a, .int .i64 b, .int .i64 c, .int .i64 d]] w fun e w' => ∃ A' n' c', e = .returned (.tuple #[.slice A' n' c', .int .i64 (nsE xs (a, b, c, d))]) ∧ w'.ownsRow w.heap.size 98 2 (.slice A' n' c') n' ((nsV xs (a, b, c, d)).flatMap c2) ∧ (nsV xs (a, b, c, d)).length = n' ∧ n' ≤ 1048576 ∧ Below w.heap.size w w' := by
  obtain ⟨i0, hi, hz0, hz1, hz2⟩ := info_parts Try.infoSpot
  have hl := Lib.hid hr.len
  have K0 := Blk.new w 34 #[.int .i64 a, .int .i64 b, .int .i64 c, .int .i64 d]
  have hB : Below w.heap.size w (w.alloc (.cells #[.int .i64 a, .int .i64 b, .int .i64 c, .int .i64 d] 34)) := (Below.refl _ _).alloc (Nat.le_refl _) _
  cases hok : boxOk (a, b, c, d) with
  | false =>
    have F := Lib.hid (ns_bad (xs := xs) hok)
    go_enter Try.func30, Try.ntmps30
    go_wp2_with fail
    with_reducible refine (validBox_any a b c d _).mono ?_
    rintro e w1 ⟨rfl, hbw1⟩
    go_wp2
    go_ret2
    rw [F.out.1, F.out.2]
    exact ⟨none, 0, 0, rfl, World.ownsRow_nil _ _ _ _, rfl, by decide, below_on hbw1 hB⟩
  | true =>
    have Hok := Lib.hid hok
    go_enter Try.func30, Try.ntmps30
    go_wp2_with fail
    with_reducible refine (validBox_any a b c d _).mono ?_
    rintro e w1 ⟨rfl, hbw1⟩
    replace K0 := K0.on hbw1
    replace hB := below_on hbw1 hB
    replace hr := hr.on hB
    go_wp2
    clear hok
    go_loopw [6, 14] (fun v i wr => ∃ (k c' : Nat) (A' : Option Addr), k ≤ n ∧ i = .int .i64 k ∧ v = .slice A' k c' ∧ Below w1.heap.size w1 wr ∧ wr.ownsRow w1.heap.size 98 2 (.slice A' k c') k (((xs.take k).map (nrmB · (a, b, c, d))).flatMap c2) ∧ Hid ((xs.take k).all (inBox · (a, b, c, d)) = true)) (fun _ i _ => n - (intOf i).toNat)
    case atStart => exact ⟨0, 0, _, by omega, rfl, rfl, (by repeat (first | exact Below.refl _ _ | assumption | refine Below.drew ?_ | refine below_drewN ?_ _ | refine Below.alloc ?_ (by first | omega | (simp <;> omega)) _ | refine Below.setCell ?_ (by first | omega | (simp <;> omega)) _)), World.ownsRow_nil _ _ _ _, rfl⟩
    case round =>
      obtain ⟨k, c', A', hk, rfl, rfl, hb, hw, hin⟩ := hrel
      have hbr := below_on hb hB
      have K1 := K0
      replace K0 := K0.on hb
      by_cases hlt : k < n
      · obtain ⟨b0, off, x, y, rfl, hbl, hx, q0, q1⟩ := (hr.below hb).at2 hlt
        have i1 : (k : Int) < (n : Int) := by omega
        have i2 : (0 : Int) ≤ (k : Int) := by omega
        have z1 := K0.lt
        have z2 := hb.size
        have e0 := K0.cell 0
        have e1 := K0.cell 1
        have e2 := K0.cell 2
        have e3 := K0.cell 3
        simp only [List.getElem?_toArray, List.getElem?_cons_succ, List.getElem?_cons_zero] at e0 e1 e2 e3
        clear hr
        cases hx1 : inB a c x with
        | false =>
          have F := Lib.hid (ns_out Hok.out hx.out (inBox_x (y := y) (b := b) (d := d) hx1))
          go_wp2_with (first | (go_at_call 83; with_reducible refine (within_any _ _ _ _).mono ?_; rintro e w' ⟨rfl, rfl⟩))
          go_ret2
          rw [F.out.1, F.out.2]
          exact ⟨none, 0, 0, rfl, World.ownsRow_nil _ _ _ _, rfl, by decide, (by repeat (first | exact Below.refl _ _ | assumption | refine Below.drew ?_ | refine below_drewN ?_ _ | refine Below.alloc ?_ (by first | omega | (simp <;> omega)) _ | refine Below.setCell ?_ (by first | omega | (simp <;> omega)) _))⟩
        | true =>
          cases hy1 : inB b d y with
          | false =>
            have F := Lib.hid (ns_out Hok.out hx.out (inBox_y (x := x) (a := a) (c := c) hy1))
            go_wp2_with (first | (go_at_call 83; with_reducible refine (within_any _ _ _ _).mono ?_; rintro e w' ⟨rfl, rfl⟩))
            go_ret2
            rw [F.out.1, F.out.2]
            exact ⟨none, 0, 0, rfl, World.ownsRow_nil _ _ _ _, rfl, by decide, (by repeat (first | exact Below.refl _ _ | assumption | refine Below.drew ?_ | refine below_drewN ?_ _ | refine Below.alloc ?_ (by first | omega | (simp <;> omega)) _ | refine Below.setCell ?_ (by first | omega | (simp <;> omega)) _))⟩
          | true =>
            have F := Lib.hid (inBox_xy hx1 hy1)
            go_wp2_with (first | (go_at_call 83; with_reducible refine (within_any _ _ _ _).mono ?_; rintro e w' ⟨rfl, rfl⟩))
            have ba : Below wr.heap.size wr (wr.alloc (.cells #[.int .i64 x, .int .i64 y] 98)) := (Below.refl _ _).alloc (Nat.le_refl _) _
            with_reducible refine (normalSpot_any x y a b c d _ Hok.out F.out).mono ?_
            rintro e w2 ⟨rfl, hbw2⟩
            replace hw := own_below (own_below hw ba) hbw2
            replace hb := below_on hbw2 (below_on ba hb)
            clear q0 q1 e0 e1 e2 e3 z1 K0 hx1 hy1
            have z3 := hb.size
            go_wp2_with (at_builtin; with_reducible refine app_one _ c2_len one2 rfl (.tmp 36) (.tmp 40) 37 rfl w1.heap.size 98 i0 _ Try.underlying37 hi hz0 hz1 hz2 rfl (by decide) (by decide) A' k c' _ rfl (hw.alloc _) w2.heap.size 1 (nrmB (x, y) (a, b, c, d)) rfl ?_ (by omega) ?_ ?_)
            · exact news2 (Cell2.new _ _ _ _)
            · simp; omega
            · intro A2 c2' w3 hw3 hbw3
              have hb3 : Below w1.heap.size w1 w3 := (hb.alloc hb.size _).trans hbw3
              clear hw hb hbw3
              go_wp2
              refine ⟨⟨k + 1, c2', A2, by omega, by go_num, rfl, hb3, ?_, all_step (p := (inBox · (a, b, c, d))) hx.out hin.out F.out⟩, by simp [intOf]; omega⟩
              simpa [map_step hx.out, flat_snoc, List.map_take] using hw3
      · have hkn : k = n := by omega
        subst hkn
        clear hr
        go_wp2
        go_ret2
        rw [List.take_of_length_le (by have := hl.out; omega)] at hw
        have F := ns_good Hok.out (all_end (by have := hl.out; omega) hin.out)
        rw [F.1, F.2]
        exact ⟨A', k, c', rfl, own_mono hw hB.size, by rw [List.length_map]; exact hl.out, hn, hbr⟩
set_option maxRecDepth 100000 in
set_option maxHeartbeats 4000000 in
theorem sNormal_any (A : Option Addr) (n cp : Nat) (xs : List T2) (a b c d : Int) (w : World) (hr : RdL c2 2 w w.heap.size A n cp xs) (hn : n ≤ 1048576) :
    Calls Try.prog 28 #[.slice A n cp, .agg #[.int .i64 a, .int .i64 b, .int .i64 c, .int .i64 d]] w fun e w' => ∃ A' n' c', e = .returned (.tuple #[.slice A' n' c', .int .i64 (nsE xs (a, b, c, d))]) ∧ w'.ownsRow w.heap.size 98 2 (.slice A' n' c') n' ((nsV xs (a, b, c, d)).flatMap c2) ∧ (nsV xs (a, b, c, d)).length = n' ∧ n' ≤ 1048576 ∧ Below w.heap.size w w' := by
  obtain ⟨i0, hi, hz0, hz1, hz2⟩ := info_parts Try.infoSpot
  have hl := Lib.hid hr.len
  have K0 := Blk.new w 34 #[.int .i64 a, .int .i64 b, .int .i64 c, .int .i64 d]
  have hB : Below w.heap.size w (w.alloc (.cells #[.int .i64 a, .int .i64 b, .int .i64 c, .int .i64 d] 34)) := (Below.refl _ _).alloc (Nat.le_refl _) _
  cases hok : boxOk (a, b, c, d) with
  | false =>
    have F := Lib.hid (ns_bad (xs := xs) hok)
    go_enter Try.func28, Try.ntmps28
    go_wp2_with fail
    with_reducible refine (l02Box_any a b c d _).mono ?_
    rintro e w1 ⟨rfl, hbw1⟩
    go_wp2
    go_ret2
    rw [F.out.1, F.out.2]
    exact ⟨none, 0, 0, rfl, World.ownsRow_nil _ _ _ _, rfl, by decide, below_on hbw1 hB⟩
  | true =>
    have Hok := Lib.hid hok
    go_enter Try.func28, Try.ntmps28
    go_wp2_with fail
    with_reducible refine (l02Box_any a b c d _).mono ?_
    rintro e w1 ⟨rfl, hbw1⟩
    replace K0 := K0.on hbw1
    replace hB := below_on hbw1 hB
    replace hr := hr.on hB
    go_wp2
    clear hok
    go_loopw [6, 7] (fun v i wr => ∃ (k c' : Nat) (A' : Option Addr), k ≤ n ∧ i = .int .i64 k ∧ v = .slice A' k c' ∧ Below w1.heap.size w1 wr ∧ wr.ownsRow w1.heap.size 98 2 (.slice A' k c') k (((xs.take k).map (nrmB · (a, b, c, d))).flatMap c2) ∧ Hid ((xs.take k).all (inBox · (a, b, c, d)) = true)) (fun _ i _ => n - (intOf i).toNat)
    case atStart => exact ⟨0, 0, _, by omega, rfl, rfl, (by repeat (first | exact Below.refl _ _ | assumption | refine Below.drew ?_ | refine below_drewN ?_ _ | refine Below.alloc ?_ (by first | omega | (simp <;> omega)) _ | refine Below.setCell ?_ (by first | omega | (simp <;> omega)) _)), by simpa using World.ownsRow_lit (base := w1.heap.size) (e := 98) (size := 2) w1 #[] 0 (Nat.le_refl _) (by simp [maxLen]) rfl, rfl⟩
    case round =>
      obtain ⟨k, c', A', hk, rfl, rfl, hb, hw, hin⟩ := hrel
      have hbr := below_on hb hB
      have K1 := K0
      replace K0 := K0.on hb
      by_cases hlt : k < n
      · obtain ⟨b0, off, x, y, rfl, hbl, hx, q0, q1⟩ := (hr.below hb).at2 hlt
        have i1 : (k : Int) < (n : Int) := by omega
        have i2 : (0 : Int) ≤ (k : Int) := by omega
        have z1 := K0.lt
        have z2 := hb.size
        have e0 := K0.cell 0
        have e1 := K0.cell 1
        have e2 := K0.cell 2
        have e3 := K0.cell 3
        simp only [List.getElem?_toArray, List.getElem?_cons_succ, List.getElem?_cons_zero] at e0 e1 e2 e3
        clear hr
        cases hx1 : inB a c x with
        | false =>
          have F := Lib.hid (ns_out Hok.out hx.out (inBox_x (y := y) (b := b) (d := d) hx1))
          go_wp2
          go_quiet ((go_at_call 80; first | (with_reducible exact quiet_left (l00In_any _ _ _ _)) | (with_reducible exact quiet_add_left (l00In_any _ _ _ _))))
          go_wp2
          go_ret2
          rw [F.out.1, F.out.2]
          exact ⟨none, 0, 0, rfl, World.ownsRow_nil _ _ _ _, rfl, by decide, (by repeat (first | exact Below.refl _ _ | assumption | refine Below.drew ?_ | refine below_drewN ?_ _ | refine Below.alloc ?_ (by first | omega | (simp <;> omega)) _ | refine Below.setCell ?_ (by first | omega | (simp <;> omega)) _))⟩
        | true =>
          cases hy1 : inB b d y with
          | false =>
            have F := Lib.hid (ns_out Hok.out hx.out (inBox_y (x := x) (a := a) (c := c) hy1))
            go_wp2
            go_quiet ((go_at_call 80; first | (with_reducible exact quiet_left (l00In_any _ _ _ _)) | (with_reducible exact quiet_add_left (l00In_any _ _ _ _))))
            go_wp2
            go_ret2
            rw [F.out.1, F.out.2]
            exact ⟨none, 0, 0, rfl, World.ownsRow_nil _ _ _ _, rfl, by decide, (by repeat (first | exact Below.refl _ _ | assumption | refine Below.drew ?_ | refine below_drewN ?_ _ | refine Below.alloc ?_ (by first | omega | (simp <;> omega)) _ | refine Below.setCell ?_ (by first | omega | (simp <;> omega)) _))⟩
          | true =>
            have F := Lib.hid (inBox_xy hx1 hy1)
            go_wp2
            go_quiet ((go_at_call 80; first | (with_reducible exact quiet_left (l00In_any _ _ _ _)) | (with_reducible exact quiet_add_left (l00In_any _ _ _ _))))
            have hbd : Below wr.heap.size wr (wr.drewN nq) := below_drewN (Below.refl _ _) _
            have p0 := (hb.cell (p := ⟨b0, off + k * 2, none⟩) hbl).symm.trans q0
            have p1 := (hb.cell (p := ⟨b0, off + k * 2 + 1, none⟩) hbl).symm.trans q1
            replace hw := own_below hw hbd
            replace hb := below_on hbd hb
            clear hbr z1 z2 q0 q1 e0 e1 e2 e3 K0
            have e0 := K1.cell 0
            have e1 := K1.cell 1
            have e2 := K1.cell 2
            have e3 := K1.cell 3
            simp only [List.getElem?_toArray, List.getElem?_cons_succ, List.getElem?_cons_zero] at e0 e1 e2 e3
            have z1 := K1.lt
            generalize wr.drewN nq = wd at *
            clear hbd
            have zb := hb.size
            go_wp2_with fail
            go_region_held3 (fun w' => (∀ b o, b < w1.heap.size → w'.cell? ⟨b, o, none⟩ = w1.cell? ⟨b, o, none⟩) ∧ Below w1.heap.size w1 w')
              (first | exact sk hb.drew | (go_split_ands; first | exact sk (below_app ‹_› hbw2 (Below.size ‹_›)) | exact sk (Below.alloc ‹_› (Below.size ‹_›) _) | exact sk (Below.trans ‹_› hbw3)))
              (first | ((refine step_one _ c2_len one2 (by rfl) (.tmp 42) (.tmp 49) 37 (by rfl) w1.heap.size 98 i0 _ Try.underlying37 hi hz0 hz1 hz2 rfl (by decide) (by decide) A' k c' _ (by rfl) ((own_below (own_below hw ((Below.refl _ _).drew)) hbw2).alloc _) w2.heap.size 1 (nrmB (x, y) (a, b, c, d)) (by rfl) (news2 (Cell2.new _ _ _ _)) (by omega) (by have := hbw2.size; simp at this ⊢; omega) ?_; intro A2 c2' w3 hw3 hbw3)) | (go_at_call 81; with_reducible refine (l07Normal_any x y a b c d _ Hok.out F.out).mono ?_; rintro e w2 ⟨rfl, hbw2⟩))
            go_split_ands
            have hb3 : Below w1.heap.size w1 w3 := ‹_›
            clear hw hb hbw3
            go_wp2
            refine ⟨⟨k + 1, c2', A2, by omega, by go_num, rfl, hb3, ?_, all_step (p := (inBox · (a, b, c, d))) hx.out hin.out F.out⟩, by simp [intOf]; omega⟩
            simpa [map_step hx.out, flat_snoc, List.map_take] using hw3
      · have hkn : k = n := by omega
        subst hkn
        clear hr
        go_wp2
        go_ret2
        rw [List.take_of_length_le (by have := hl.out; omega)] at hw
        have F := ns_good Hok.out (all_end (by have := hl.out; omega) hin.out)
        rw [F.1, F.2]
        exact ⟨A', k, c', rfl, own_mono hw hB.size, by rw [List.length_map]; exact hl.out, hn, hbr⟩
end Go.Proofs.Ytoaeclnhhciimaa
