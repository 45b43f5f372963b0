/- Contracts of BoxOfSpots, the program. -/
import Derived.Test.YtoaeclnhhciimaaBx
namespace Go.Proofs.Ytoaeclnhhciimaa
open Go.ChangeShapes Go.WideShapes Go.ChangeAt Go.RowKit
set_option maxHeartbeats 4000000 in
theorem iBox_any (A : Option Addr) (n c : Nat) (xs : List T2) (w : World) (hr : RdL c2 2 w w.heap.size A n c xs) (hn : n ≤ 1048576) :
    Calls Try.prog 23 #[.slice A n c] w fun e w' => e = .returned (.tuple #[.agg (v4 (boxV xs)), .int .i64 (boxE xs)]) ∧ Below w.heap.size w w' := by
  have hl := Lib.hid hr.len
  go_enter Try.func23, Try.ntmps23
  go_wp2_with fail
  have K0 : Blk (w.alloc (.cells #[.int .i64 0, .int .i64 0, .int .i64 0, .int .i64 0] 34)) w.heap.size 34 #[.int .i64 0, .int .i64 0, .int .i64 0, .int .i64 0] := Blk.new _ _ _
  have hB : Below w.heap.size w (w.alloc (.cells #[.int .i64 0, .int .i64 0, .int .i64 0, .int .i64 0] 34)) := (by repeat (first | exact Below.refl _ _ | assumption | refine Below.drew ?_ | refine below_drewN ?_ _ | refine Below.alloc ?_ (by first | omega | (simp <;> omega)) _ | refine Below.setCell ?_ (by first | omega | (simp <;> omega)) _))
  generalize w.alloc (.cells #[.int .i64 0, .int .i64 0, .int .i64 0, .int .i64 0] 34) = w0 at *
  have z0 := K0.lt
  replace hr := hr.on hB
  go_loopw [11] (fun i wr => ∃ k : Nat, k ≤ n ∧ i = .int .i64 k ∧ Below w0.heap.size w0 wr ∧ Hid ((xs.take k).all spOk = true)) (fun i _ => n - (intOf i).toNat)
  case atStart => exact ⟨0, by omega, rfl, Below.refl _ _, rfl⟩
  case round =>
    obtain ⟨k, hk, rfl, hb, hw⟩ := hrel
    have hBr := below_on (hb.mono (by omega)) hB
    replace K0 := K0.on hb
    by_cases hlt : k < n
    · obtain ⟨b, off, x, y, rfl, hbl, hx, q0, q1⟩ := (hr.below hb).at2 hlt
      clear hr
      have e0 := K0.cell 0
      have e1 := K0.cell 1
      have e2 := K0.cell 2
      have e3 := K0.cell 3
      simp only [List.getElem?_toArray, List.getElem?_cons_succ, List.getElem?_cons_zero] at e0 e1 e2 e3
      have f0 := K0.frozen 0
      have f1 := K0.frozen 1
      have f2 := K0.frozen 2
      have f3 := K0.frozen 3
      have hz := hb.size
      have z1 := K0.lt
      cases hx1 : inB 0 4095 x with
      | false =>
        have F : Hid (boxE xs = 1 ∧ boxV xs = (0, 0, 0, 0)) := box_bad hx.out (by unfold spOk; simp only [hx1]; rfl)
        go_wp2_with (first | (go_at_call 73; with_reducible refine (isCoord_any _ _).mono ?_; rintro e w' ⟨rfl, rfl⟩))
        rw [F.out.1, F.out.2]
        exact bodyPost_ret (v := .tuple #[.agg #[.int .i64 0, .int .i64 0, .int .i64 0, .int .i64 0], .int .i64 1]) (by simp [results, Try.results23, go_sem, e0, e1, e2, e3, z1]) rfl ⟨rfl, (by repeat (first | exact Below.refl _ _ | assumption | refine Below.drew ?_ | refine below_drewN ?_ _ | refine Below.alloc ?_ (by first | omega | (simp <;> omega)) _ | refine Below.setCell ?_ (by first | omega | (simp <;> omega)) _))⟩
      | true =>
        cases hy1 : inB 0 4095 y with
        | false =>
          have F : Hid (boxE xs = 1 ∧ boxV xs = (0, 0, 0, 0)) := box_bad hx.out (by unfold spOk; simp only [hx1, hy1]; rfl)
          go_wp2_with (first | (go_at_call 73; with_reducible refine (isCoord_any _ _).mono ?_; rintro e w' ⟨rfl, rfl⟩))
          rw [F.out.1, F.out.2]
          exact bodyPost_ret (v := .tuple #[.agg #[.int .i64 0, .int .i64 0, .int .i64 0, .int .i64 0], .int .i64 1]) (by simp [results, Try.results23, go_sem, e0, e1, e2, e3, z1]) rfl ⟨rfl, (by repeat (first | exact Below.refl _ _ | assumption | refine Below.drew ?_ | refine below_drewN ?_ _ | refine Below.alloc ?_ (by first | omega | (simp <;> omega)) _ | refine Below.setCell ?_ (by first | omega | (simp <;> omega)) _))⟩
        | true =>
          have F : Hid (spOk (x, y) = true) := by unfold Hid spOk; simp only [hx1, hy1]; rfl
          go_wp2_with (first | (go_at_call 73; with_reducible refine (isCoord_any _ _).mono ?_; rintro e w' ⟨rfl, rfl⟩))
          exact ⟨⟨k + 1, by omega, by go_num, (by repeat (first | exact Below.refl _ _ | assumption | refine Below.drew ?_ | refine below_drewN ?_ _ | refine Below.alloc ?_ (by first | omega | (simp <;> omega)) _ | refine Below.setCell ?_ (by first | omega | (simp <;> omega)) _)), all_step hx.out hw.out F.out⟩, by simp [intOf]; omega⟩
    · have hkn : k = n := by omega
      subst hkn
      have hall : Hid (xs.all spOk = true) := all_end (by have := hl.out; omega) hw.out
      have z1 := K0.lt
      by_cases h0 : k = 0
      · subst h0
        have F : Hid (boxE xs = 6 ∧ boxV xs = (0, 0, 0, 0)) := box_none hl.out hall.out
        have e0 := K0.cell 0
        have e1 := K0.cell 1
        have e2 := K0.cell 2
        have e3 := K0.cell 3
        simp only [List.getElem?_toArray, List.getElem?_cons_succ, List.getElem?_cons_zero] at e0 e1 e2 e3
        have f0 := K0.frozen 0
        have f1 := K0.frozen 1
        have f2 := K0.frozen 2
        have f3 := K0.frozen 3
        clear hr
        go_wp2
        rw [F.out.1, F.out.2]
        exact bodyPost_ret (v := .tuple #[.agg #[.int .i64 0, .int .i64 0, .int .i64 0, .int .i64 0], .int .i64 6]) (by simp [results, Try.results23, go_sem, e0, e1, e2, e3]) rfl ⟨rfl, (by repeat (first | exact Below.refl _ _ | assumption | refine Below.drew ?_ | refine below_drewN ?_ _ | refine Below.alloc ?_ (by first | omega | (simp <;> omega)) _ | refine Below.setCell ?_ (by first | omega | (simp <;> omega)) _))⟩
      · have hpos : 0 < k := by omega
        have hpos' : (0 : Int) < (k : Int) := by omega
        have hne : ((k : Int) == 0) = false := by simp; omega
        have hrr := hr.on hb
        obtain ⟨b, off, x, y, rfl, hbl, hx, q0, q1⟩ := hrr.at2 hpos
        rw [Nat.zero_mul, Nat.add_zero] at q0 q1
        clear hr
        have HX := Lib.hid hrr
        clear hrr
        go_wp2
        go_region_held3 (fun w' => w'.cell? ⟨b, off, none⟩ = some (.int .i64 x) ∧ w'.cell? ⟨b, off + 1, none⟩ = some (.int .i64 y)) (first | exact ⟨q0, q1⟩ | go_keep) (fail)
        have J0 : Blk (wr.alloc (.cells #[.int .i64 x, .int .i64 y, .int .i64 x, .int .i64 y] 34)).drew wr.heap.size 34 (v4 (spB (x, y))) := (Blk.new _ _ _).drew
        have hb2 : Below wr.heap.size wr (wr.alloc (.cells #[.int .i64 x, .int .i64 y, .int .i64 x, .int .i64 y] 34)).drew := (by repeat (first | exact Below.refl _ _ | assumption | refine Below.drew ?_ | refine below_drewN ?_ _ | refine Below.alloc ?_ (by first | omega | (simp <;> omega)) _ | refine Below.setCell ?_ (by first | omega | (simp <;> omega)) _))
        have hr := HX.out.on hb2
        replace K0 := K0.on hb2
        replace hBr := below_on hb2 hBr
        have hne2 : b ≠ wr.heap.size := by omega
        clear q0 q1 hb hB hbl
        generalize hg : wr.heap.size = g at *
        generalize (wr.alloc (.cells #[.int .i64 x, .int .i64 y, .int .i64 x, .int .i64 y] 34)).drew = w1 at *
        have z9 : w.heap.size < g := z1
        clear hg HX z1
        go_wp2
        go_loopw [50] (fun i wr => ∃ j : Nat, j ≤ k ∧ i = .int .i64 j ∧ Below w.heap.size w wr ∧ RdL c2 2 wr wr.heap.size (some ⟨b, off, none⟩) k c xs ∧ b ≠ g ∧ Blk wr w.heap.size 34 #[.int .i64 0, .int .i64 0, .int .i64 0, .int .i64 0] ∧ Blk wr g 34 (v4 (boxFrom (xs.take j) (spB (x, y))))) (fun i _ => k - (intOf i).toNat)
        case atStart => exact ⟨0, by omega, rfl, hBr, hr, hne2, K0, J0⟩
        case round =>
          clear hBr hr K0 J0
          obtain ⟨j, hj, rfl, hBr, hr, hne2, K0, J0⟩ := hrel
          by_cases hlt : j < k
          · obtain ⟨b', off', x', y', he, hbl, hx', q0, q1⟩ := hr.at2 hlt
            cases he
            have e0 := K0.cell 0
            have e1 := K0.cell 1
            have e2 := K0.cell 2
            have e3 := K0.cell 3
            simp only [List.getElem?_toArray, List.getElem?_cons_succ, List.getElem?_cons_zero] at e0 e1 e2 e3
            have j0 := J0.cell 0
            have j1 := J0.cell 1
            have j2 := J0.cell 2
            have j3 := J0.cell 3
            simp only [List.getElem?_toArray, List.getElem?_cons_succ, List.getElem?_cons_zero] at j0 j1 j2 j3
            have l0 := J0.frozen 0
            have l1 := J0.frozen 1
            have l2 := J0.frozen 2
            have l3 := J0.frozen 3
            have z1 := K0.lt
            have z2 := J0.lt
            have z3 := hBr.size
            generalize hbx : boxFrom (xs.take j) (spB (x, y)) = bx at *
            obtain ⟨b1, b2, b3, b4⟩ := bx
            have HBX := Lib.hid hbx
            clear hbx
            have HR := Lib.hid hr
            clear hr
            have ba : Below wr.heap.size wr (wr.alloc (.cells #[.int .i64 x', .int .i64 y'] 98)) := (Below.refl _ _).alloc (Nat.le_refl _) _
            go_wp2_with fail
            with_reducible refine (joinBoxes_any b1 b2 b3 b4 x' y' x' y' _).mono ?_
            rintro e w2 ⟨rfl, hbw2⟩
            clear e0 e1 e2 e3 j0 j1 j2 j3 l0 l1 l2 l3 q0 q1
            replace K0 := (K0.on ba).on hbw2
            replace J0 := (J0.on ba).on hbw2
            replace hBr := below_on hbw2 (below_on ba hBr)
            have j0 := J0.cell 0
            have j1 := J0.cell 1
            have j2 := J0.cell 2
            have j3 := J0.cell 3
            simp only [List.getElem?_toArray, List.getElem?_cons_succ, List.getElem?_cons_zero] at j0 j1 j2 j3
            have l0 := J0.frozen 0
            have l1 := J0.frozen 1
            have l2 := J0.frozen 2
            have l3 := J0.frozen 3
            have z2 := J0.lt
            go_wp2
            have hsz : w.heap.size ≤ g := by omega
            refine ⟨⟨j + 1, by omega, by go_num, (by repeat (first | exact Below.refl _ _ | assumption | refine Below.drew ?_ | refine below_drewN ?_ _ | refine Below.alloc ?_ (by first | omega | (simp <;> omega)) _ | refine Below.setCell ?_ (by first | omega | (simp <;> omega)) _)), ?_, hne2, K0.far4 (by omega) _ _ _ _, ?_⟩, by simp [intOf]; omega⟩
            · exact RdL.farh (RdL.farh (RdL.farh (RdL.farh ((HR.out.on ba).on hbw2) (by intro ad h; cases h; exact hne2) _) (by intro ad h; cases h; exact hne2) _) (by intro ad h; cases h; exact hne2) _) (by intro ad h; cases h; exact hne2) _
            · have e := boxFrom_step (b := spB (x, y)) hx'.out
              rw [HBX.out] at e
              rw [e]
              exact J0.set4 _ _ _ _
          · have hjk : j = k := by omega
            subst hjk
            have F : Hid (boxE xs = 0 ∧ boxV xs = boxFrom (xs.take j) (spB (x, y))) := box_good hl.out hall.out hx.out (by omega)
            generalize boxFrom (xs.take j) (spB (x, y)) = bx at *
            obtain ⟨b1, b2, b3, b4⟩ := bx
            have j0 := J0.cell 0
            have j1 := J0.cell 1
            have j2 := J0.cell 2
            have j3 := J0.cell 3
            simp only [List.getElem?_toArray, List.getElem?_cons_succ, List.getElem?_cons_zero] at j0 j1 j2 j3
            have e0 := K0.cell 0
            have e1 := K0.cell 1
            have e2 := K0.cell 2
            have e3 := K0.cell 3
            simp only [List.getElem?_toArray, List.getElem?_cons_succ, List.getElem?_cons_zero] at e0 e1 e2 e3
            have l0 := K0.frozen 0
            have l1 := K0.frozen 1
            have l2 := K0.frozen 2
            have l3 := K0.frozen 3
            have z1 := K0.lt
            clear hr
            go_wp2
            rw [F.out.1, F.out.2]
            exact bodyPost_ret (v := .tuple #[.agg #[.int .i64 b1, .int .i64 b2, .int .i64 b3, .int .i64 b4], .int .i64 0]) (by simp [results, Try.results23, go_sem, e0, e1, e2, e3]) rfl ⟨rfl, (by repeat (first | exact Below.refl _ _ | assumption | refine Below.drew ?_ | refine below_drewN ?_ _ | refine Below.alloc ?_ (by first | omega | (simp <;> omega)) _ | refine Below.setCell ?_ (by first | omega | (simp <;> omega)) _))⟩
end Go.Proofs.Ytoaeclnhhciimaa
