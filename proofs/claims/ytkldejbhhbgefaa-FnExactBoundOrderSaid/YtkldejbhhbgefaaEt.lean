/- The reference's table of elastic matching, walked. -/
import Derived.Test.YtkldejbhhbgefaaEl
import Derived.Test.YtkldejbhhbgefaaFlInt
import Derived.Test.YtkldejbhhbgefaaPm
import Derived.IntWalk
namespace Go.Proofs.Ytkldejbhhbgefaa
open Go.ChangeShapes Go.WideShapes Go.ChangeAt Go.RowKit
/-- The first q places of a table with rows of m, row by row. -/
def tl (F : Nat → Nat → Int) (m q : Nat) : List Int := (List.range q).map fun p => F (p / m) (p % m)
theorem tl_len (F : Nat → Nat → Int) (m q : Nat) : (tl F m q).length = q := by simp [tl]
theorem tl_step (F : Nat → Nat → Int) {m i j : Nat} (hj : j < m) : tl F m (i * m + j + 1) = tl F m (i * m + j) ++ [F i j] := by
  have hd : (i * m + j) / m = i := by rw [Nat.mul_comm, Nat.mul_add_div (by omega), Nat.div_eq_of_lt hj, Nat.add_zero]
  have hm : (i * m + j) % m = j := by rw [Nat.mul_comm, Nat.mul_add_mod, Nat.mod_eq_of_lt hj]
  simp [tl, List.range_succ, hd, hm]
theorem tl_at (F : Nat → Nat → Int) {m i j q : Nat} (hj : j < m) (h : i * m + j < q) : (tl F m q)[i * m + j]? = some (F i j) := by
  have hd : (i * m + j) / m = i := by rw [Nat.mul_comm, Nat.mul_add_div (by omega), Nat.div_eq_of_lt hj, Nat.add_zero]
  have hm : (i * m + j) % m = j := by rw [Nat.mul_comm, Nat.mul_add_mod, Nat.mod_eq_of_lt hj]
  simp [tl, h, hd, hm]
theorem tab_cell {w : World} {base e g N q p : Nat} {F : Nat → Nat → Int} {m : Nat} {x : Int} (h : w.ownsRow base e 1 (.slice (some ⟨g, 0, none⟩) N N) N ((tl F m q).flatMap c1 ++ List.replicate (N - q) (.int .i64 0))) (hq : q ≤ N) (hx : (tl F m q)[p]? = some x) :
    w.cell? ⟨g, p, none⟩ = some (.int .i64 x) := by
  have hp : p < q := by have := (List.getElem?_eq_some_iff.1 hx).1; rwa [tl_len] at this
  rw [h.cellAt p (by omega), List.getElem?_append_left (by rw [flat_len c1_len, tl_len]; omega)]
  have := flat_get c1_len (tl F m q) p 0 x hx (by omega)
  rw [show p * 1 + 0 = p by omega] at this
  rw [this]; rfl
theorem lbF_b (inf : Int) (F : Nat → Nat → Int) {j : Nat} (hj : 0 < j) : lbF inf F 0 j = min inf (F 0 (j - 1)) := by
  obtain ⟨j, rfl⟩ : ∃ q, j = q + 1 := ⟨j - 1, by omega⟩
  rfl
theorem lbF_c (inf : Int) (F : Nat → Nat → Int) {i : Nat} (hi : 0 < i) : lbF inf F i 0 = min inf (F (i - 1) 0) := by
  obtain ⟨i, rfl⟩ : ∃ q, i = q + 1 := ⟨i - 1, by omega⟩
  rfl
theorem lbF_d (inf : Int) (F : Nat → Nat → Int) {i j : Nat} (hi : 0 < i) (hj : 0 < j) : lbF inf F i j = min (min (min inf (F (i - 1) (j - 1))) (F (i - 1) j)) (F i (j - 1)) := by
  obtain ⟨i, rfl⟩ : ∃ q, i = q + 1 := ⟨i - 1, by omega⟩
  obtain ⟨j, rfl⟩ : ∃ q, j = q + 1 := ⟨j - 1, by omega⟩
  rfl
theorem fin_inf {inf : Int} {a b : List T3} {band : Int} {i j : Nat} {best : Int} (h : inf ≤ best ∨ band < away i j) : fin inf a b band i j best = inf := by unfold fin; rw [if_pos h]
theorem fin_cost {inf : Int} {a b : List T3} {band : Int} {i j : Nat} {best : Int} {u v : T3} (h : best < inf) (h' : away i j ≤ band) (hu : a[i]? = some u) (hv : b[j]? = some v) : fin inf a b band i j best = best + costF u v := by
  unfold fin cst
  rw [if_neg (by omega), List.getD_eq_getElem?_getD, List.getD_eq_getElem?_getD, hu, hv]; rfl
set_option maxRecDepth 100000 in
set_option maxHeartbeats 20000000 in
theorem l09Table_any (A B : Option Addr) (n ca m cb : Nat) (xs ys : List T3) (band : Int) (w : World) (hr : RdL c3 3 w w.heap.size A n ca xs) (hr' : RdL c3 3 w w.heap.size B m cb ys)
    (ha : xs.all featOk = true) (hb : ys.all featOk = true) (hn1 : 1 ≤ n) (hn : n ≤ 72) (hm1 : 1 ≤ m) (hm : m ≤ 72) (h0 : 0 ≤ band) (h1 : band ≤ 72) :
    Calls Try.prog 122 #[.slice A n ca, .slice B m cb, .int .i64 band] w fun e w' => e = .returned (.slice (some ⟨w.heap.size, 0, none⟩) (n * m) (n * m)) ∧
      w'.ownsRow w.heap.size 2 1 (.slice (some ⟨w.heap.size, 0, none⟩) (n * m) (n * m)) (n * m) ((tl (tb 1000000000 xs ys band) m (n * m)).flatMap c1) ∧ Below w.heap.size w w' := by
  obtain ⟨i0, hi, hz0, hz1, hz2⟩ := info_parts Try.infoInt64
  have hl := Lib.hid hr.len
  have hl' := Lib.hid hr'.len
  have HA := Lib.hid ha
  have HB := Lib.hid hb
  have hN72 : n * m ≤ 5184 := Nat.le_trans (Nat.mul_le_mul hn hm) (by decide)
  obtain ⟨N, hN⟩ : ∃ N : Nat, N = n * m := ⟨_, rfl⟩
  rw [← hN] at hN72 ⊢
  have M0 : (n : Int) * (m : Int) = (N : Int) := by rw [hN]; simp
  have HN := Lib.hid hN
  clear hN ha hb
  go_enter Try.func122, Try.ntmps122
  go_wp2_with (refine wpList_make_full _ rfl _ _ _ rfl w.heap.size 2 i0 _ 1 Try.underlying26 hi hz0 hz1 .i64 .i64 N N N rfl rfl rfl rfl (by rw [hz2]; omega) (by unfold maxLen; omega) (Nat.le_refl _) ?_; intro w1 hown hg)
  rw [made1] at hown
  have hB1 : Below w.heap.size w w1 := (Below.refl _ _).grown hg (Nat.le_refl _) (fun k h => by cases h)
  clear hg M0
  go_loopw [10, 11, 12] (fun i _ _ wr => ∃ k : Nat, k ≤ n ∧ i = .int .i64 k ∧ Below w.heap.size w wr ∧
      wr.ownsRow w.heap.size 2 1 (.slice (some ⟨w.heap.size, 0, none⟩) N N) N ((tl (tb 1000000000 xs ys band) m (k * m)).flatMap c1 ++ List.replicate (N - k * m) (.int .i64 0))) (fun i _ _ _ => n - (intOf i).toNat)
  case atStart => exact ⟨0, by omega, rfl, hB1, by simpa [tl] using hown⟩
  case round =>
    obtain ⟨k, hk, rfl, hbr, hw⟩ := hrel
    clear hown hB1
    by_cases hlt : k < n
    · have hkm : k * m + m ≤ N := by rw [HN.out]; have := Nat.mul_le_mul_right m (show k + 1 ≤ n by omega); rwa [Nat.succ_mul] at this
      go_wp2
      obtain ⟨wo, rfl⟩ : ∃ wo : World, wo = wr := ⟨_, rfl⟩
      go_loopw [11, 12] (fun j _ wr => ∃ l : Nat, l ≤ m ∧ j = .int .i64 l ∧ Below w.heap.size w wr ∧
        wr.ownsRow w.heap.size 2 1 (.slice (some ⟨w.heap.size, 0, none⟩) N N) N ((tl (tb 1000000000 xs ys band) m (k * m + l)).flatMap c1 ++ List.replicate (N - (k * m + l)) (.int .i64 0))) (fun j _ _ => m - (intOf j).toNat)
      case atStart => exact ⟨0, by omega, rfl, hbr, hw⟩
      case round =>
        clear hbr hw
        obtain ⟨l, hlm, rfl, hbr, hw⟩ := hrel
        by_cases hlt' : l < m
        · obtain ⟨b0, off0, x, y, d, hA, hbl, hx, q0, q1, q2⟩ := (hr.below hbr).at3 hlt
          obtain ⟨b1, off1, x', y', d', hB', hbl', hx', p0, p1, p2⟩ := (hr'.below hbr).at3 hlt'
          have V1 : featB x y d = true := all_at (p := featOk) (x := (x, y, d)) HA.out hx.out
          have V2 : featB x' y' d' = true := all_at (p := featOk) (x := (x', y', d')) HB.out hx'.out
          obtain ⟨cb0, cb1⟩ := costF_bd (a := (x, y, d)) (b := (x', y', d')) V1 V2
          have V1 := Lib.hid V1
          have V2 := Lib.hid V2
          have RG := Lib.hid (fun (i j : Nat) (hi : i < n) (hj : j < m) => tb_range (inf := 1000000000) HA.out HB.out (by have := hl.out; omega) (by have := hl'.out; omega) h0 (by omega) (i := i) (j := j) (by have := hl.out; omega) (by have := hl'.out; omega))
          have TE := Lib.hid (tb_eq 1000000000 xs ys band k l)
          generalize him : k * m = im at *
          have M1 : (k : Int) * (m : Int) = (im : Int) := by rw [← him]; simp
          have HI := Lib.hid him
          clear him
          obtain ⟨⟨v0, e0⟩, f0⟩ := own_cell hw (j := im + l) (by omega)
          have j0 : (0 : Int) ≤ (k : Int) := by omega
          have j1 : (k : Int) < (n : Int) := by omega
          have j2 : (0 : Int) ≤ (l : Int) := by omega
          have j3 : (l : Int) < (m : Int) := by omega
          have j4 : (im : Int) + (m : Int) ≤ (N : Int) := by omega
          have HW := Lib.hid hw
          subst hA hB'
          clear hr hr' hw
          have B1 := fun (h : k ≤ 0) => (by simp; omega : ((k : Int) == 0) = true)
          have B2 := fun (h : l ≤ 0) => (by simp; omega : ((l : Int) == 0) = true)
          have B3 := fun (h : 0 < k) => (by simp; omega : ((k : Int) == 0) = false)
          have B4 := fun (h : 0 < l) => (by simp; omega : ((l : Int) == 0) = false)
          by_cases c1' : k ≤ 0
          · replace B1 := B1 c1'
            clear B3
            by_cases c2' : l ≤ 0
            · replace B2 := B2 c2'
              clear B4
              have AH : Hid (ahead 1000000000 (tb 1000000000 xs ys band) k l = 0) := by unfold Hid ahead; rw [if_pos ⟨by omega, by omega⟩]
              by_cases t2 : band < (((k : Int) - (l : Int)).natAbs : Int)
              · exact absurd t2 (by omega)
              · have HF : Hid ((tb 1000000000 xs ys band) k l = costF (x, y, d) (x', y', d')) := by unfold Hid; have h9 := fin_cost (inf := 1000000000) (band := band) (best := 0) (by omega) (show away k l ≤ band by unfold away; omega) hx.out hx'.out; rw [TE.out, AH.out, h9]; omega
                have o1 : IntKind.i64.wrap (costF (x, y, d) (x', y', d')) = costF (x, y, d) (x', y', d') := IntWalk.i64_in _ (by omega)
                have o2 : IntKind.i64.wrap ((im : Int) + (l : Int)) = (im : Int) + (l : Int) := IntWalk.i64_in _ (by omega)
                have o3 : IntKind.i64.wrap (im : Int) = (im : Int) := IntWalk.i64_in _ (by omega)
                go_wp2_with (first | (go_at_call 92; with_reducible refine (l00Min_any _ _ _).mono ?_; rintro e w' ⟨rfl, rfl⟩) | (go_at_call 103; with_reducible refine (l09Size_any _ _ (by omega) (by omega)).mono ?_; rintro e w' ⟨rfl, rfl⟩))
                have a0 := (hbr.cell (p := ⟨b0, off0 + k * 3, none⟩) hbl).symm.trans q0
                have a1 := (hbr.cell (p := ⟨b0, off0 + k * 3 + 1, none⟩) hbl).symm.trans q1
                have a2 := (hbr.cell (p := ⟨b0, off0 + k * 3 + 2, none⟩) hbl).symm.trans q2
                have g0 := (hbr.cell (p := ⟨b1, off1 + l * 3, none⟩) hbl').symm.trans p0
                have g1 := (hbr.cell (p := ⟨b1, off1 + l * 3 + 1, none⟩) hbl').symm.trans p1
                have g2 := (hbr.cell (p := ⟨b1, off1 + l * 3 + 2, none⟩) hbl').symm.trans p2
                have hlN : im + l < N * 1 := by omega
                have j5 : (0 : Int) ≤ (im : Int) + (l : Int) := by omega
                have j6 : (im : Int) + (l : Int) < (N : Int) := by omega
                have j7 : ((im : Int) + (l : Int)).toNat = im + l := by omega
                clear q0 q1 q2 p0 p1 p2 e0 f0
                go_region_held3 (fun w' => (∀ b o, b < w.heap.size → w'.cell? ⟨b, o, none⟩ = w.cell? ⟨b, o, none⟩) ∧ Below w.heap.size w w') (first | exact sk hbr.drew | (go_split_ands; first | exact sk (below_app ‹_› hbw2 (Below.size ‹_›)) | exact sk (Below.setCell (below_app hbr.drew hbw2 hbr.size) (Nat.le_refl _) _))) (first | (go_at_call 106; with_reducible refine (l09Cost_any x y d x' y' d' _ V1.out V2.out).mono ?_; rintro e w2 ⟨rfl, hbw2⟩; have hw2 := own_below (own_below HW.out ((Below.refl _ _).drew)) hbw2; obtain ⟨⟨v1, e1⟩, f1⟩ := own_cell hw2 (j := im + l) hlN))
                go_split_ands
                have hbx : Below w.heap.size w w2 := below_app hbr.drew hbw2 hbr.size
                clear o1 o2 o3 j7
                go_wp2
                refine ⟨⟨l + 1, by omega, by go_num, hbx.setCell (Nat.le_refl _) _, ?_⟩, by simp [intOf]; omega⟩
                have st := tl_step (tb 1000000000 xs ys band) (i := k) hlt'
                rw [HI.out, HF.out] at st
                rw [← Nat.add_assoc, st]
                exact put1 hw2 (tl_len _ _ _) (by omega) _
            · have c3 : 0 < l := by omega
              replace B4 := B4 c3
              clear B2 c2'
              obtain ⟨ll, hll⟩ : ∃ ll, Hid ((tb 1000000000 xs ys band) k (l - 1) = ll) := ⟨_, rfl⟩
              obtain ⟨ll0, ll1, ll2⟩ := RG.out k (l - 1) hlt (by omega)
              rw [hll.out] at ll0 ll1 ll2
              have llc : wr.cell? ⟨w.heap.size, im + l - 1, none⟩ = some (.int .i64 ll) := by
                have h9 := tl_at (tb 1000000000 xs ys band) (m := m) (i := k) (j := l - 1) (q := im + l) (by omega) (by have h6 := HI.out; omega)
                rw [hll.out] at h9
                have h8 := tab_cell HW.out (by omega) h9
                have h7 : k * m + (l - 1) = im + l - 1 := by have h6 := HI.out; omega
                rwa [h7] at h8
              have AH : Hid (ahead 1000000000 (tb 1000000000 xs ys band) k l = min 1000000000 ll) := by unfold Hid ahead; rw [if_neg (by omega), show k = 0 by omega, lbF_b _ _ c3, ← show k = 0 by omega, hll.out]
              by_cases t1 : min 1000000000 ll = 1000000000
              · have HF : Hid ((tb 1000000000 xs ys band) k l = 1000000000) := by unfold Hid; rw [TE.out, AH.out]; exact fin_inf (.inl (by omega))
                go_wp2_with (first | (go_at_call 92; with_reducible refine (l00Min_any _ _ _).mono ?_; rintro e w' ⟨rfl, rfl⟩) | (go_at_call 103; with_reducible refine (l09Size_any _ _ (by omega) (by omega)).mono ?_; rintro e w' ⟨rfl, rfl⟩))
                refine ⟨⟨l + 1, by omega, by go_num, (by repeat (first | exact Below.refl _ _ | assumption | refine Below.drew ?_ | refine below_drewN ?_ _ | refine Below.alloc ?_ (by first | omega | (simp <;> omega)) _ | refine Below.setCell ?_ (by first | omega | (simp <;> omega)) _)), ?_⟩, by simp [intOf]; omega⟩
                have st := tl_step (tb 1000000000 xs ys band) (i := k) hlt'
                rw [HI.out, HF.out] at st
                rw [← Nat.add_assoc, st]
                exact put1 HW.out (tl_len _ _ _) (by omega) _
              · have t1' : (min 1000000000 ll == 1000000000) = false := by simp; omega
                have t1b : min 1000000000 ll < 1000000000 := by omega
                clear t1
                by_cases t2 : band < (((k : Int) - (l : Int)).natAbs : Int)
                · have HF : Hid ((tb 1000000000 xs ys band) k l = 1000000000) := by unfold Hid; rw [TE.out, AH.out]; exact fin_inf (.inr t2)
                  go_wp2_with (first | (go_at_call 92; with_reducible refine (l00Min_any _ _ _).mono ?_; rintro e w' ⟨rfl, rfl⟩) | (go_at_call 103; with_reducible refine (l09Size_any _ _ (by omega) (by omega)).mono ?_; rintro e w' ⟨rfl, rfl⟩))
                  refine ⟨⟨l + 1, by omega, by go_num, (by repeat (first | exact Below.refl _ _ | assumption | refine Below.drew ?_ | refine below_drewN ?_ _ | refine Below.alloc ?_ (by first | omega | (simp <;> omega)) _ | refine Below.setCell ?_ (by first | omega | (simp <;> omega)) _)), ?_⟩, by simp [intOf]; omega⟩
                  have st := tl_step (tb 1000000000 xs ys band) (i := k) hlt'
                  rw [HI.out, HF.out] at st
                  rw [← Nat.add_assoc, st]
                  exact put1 HW.out (tl_len _ _ _) (by omega) _
                · have HF : Hid ((tb 1000000000 xs ys band) k l = min 1000000000 ll + costF (x, y, d) (x', y', d')) := by unfold Hid; have h9 := fin_cost (inf := 1000000000) (band := band) (best := min 1000000000 ll) (by omega) (show away k l ≤ band by unfold away; omega) hx.out hx'.out; rw [TE.out, AH.out, h9]
                  have o1 : IntKind.i64.wrap (min 1000000000 ll + costF (x, y, d) (x', y', d')) = min 1000000000 ll + costF (x, y, d) (x', y', d') := IntWalk.i64_in _ (by omega)
                  have o2 : IntKind.i64.wrap ((im : Int) + (l : Int)) = (im : Int) + (l : Int) := IntWalk.i64_in _ (by omega)
                  have o3 : IntKind.i64.wrap (im : Int) = (im : Int) := IntWalk.i64_in _ (by omega)
                  go_wp2_with (first | (go_at_call 92; with_reducible refine (l00Min_any _ _ _).mono ?_; rintro e w' ⟨rfl, rfl⟩) | (go_at_call 103; with_reducible refine (l09Size_any _ _ (by omega) (by omega)).mono ?_; rintro e w' ⟨rfl, rfl⟩))
                  have a0 := (hbr.cell (p := ⟨b0, off0 + k * 3, none⟩) hbl).symm.trans q0
                  have a1 := (hbr.cell (p := ⟨b0, off0 + k * 3 + 1, none⟩) hbl).symm.trans q1
                  have a2 := (hbr.cell (p := ⟨b0, off0 + k * 3 + 2, none⟩) hbl).symm.trans q2
                  have g0 := (hbr.cell (p := ⟨b1, off1 + l * 3, none⟩) hbl').symm.trans p0
                  have g1 := (hbr.cell (p := ⟨b1, off1 + l * 3 + 1, none⟩) hbl').symm.trans p1
                  have g2 := (hbr.cell (p := ⟨b1, off1 + l * 3 + 2, none⟩) hbl').symm.trans p2
                  have hlN : im + l < N * 1 := by omega
                  have j5 : (0 : Int) ≤ (im : Int) + (l : Int) := by omega
                  have j6 : (im : Int) + (l : Int) < (N : Int) := by omega
                  have j7 : ((im : Int) + (l : Int)).toNat = im + l := by omega
                  clear q0 q1 q2 p0 p1 p2 e0 f0
                  go_region_held3 (fun w' => (∀ b o, b < w.heap.size → w'.cell? ⟨b, o, none⟩ = w.cell? ⟨b, o, none⟩) ∧ Below w.heap.size w w') (first | exact sk hbr.drew | (go_split_ands; first | exact sk (below_app ‹_› hbw2 (Below.size ‹_›)) | exact sk (Below.setCell (below_app hbr.drew hbw2 hbr.size) (Nat.le_refl _) _))) (first | (go_at_call 106; with_reducible refine (l09Cost_any x y d x' y' d' _ V1.out V2.out).mono ?_; rintro e w2 ⟨rfl, hbw2⟩; have hw2 := own_below (own_below HW.out ((Below.refl _ _).drew)) hbw2; obtain ⟨⟨v1, e1⟩, f1⟩ := own_cell hw2 (j := im + l) hlN))
                  go_split_ands
                  have hbx : Below w.heap.size w w2 := below_app hbr.drew hbw2 hbr.size
                  clear o1 o2 o3 j7
                  go_wp2
                  refine ⟨⟨l + 1, by omega, by go_num, hbx.setCell (Nat.le_refl _) _, ?_⟩, by simp [intOf]; omega⟩
                  have st := tl_step (tb 1000000000 xs ys band) (i := k) hlt'
                  rw [HI.out, HF.out] at st
                  rw [← Nat.add_assoc, st]
                  exact put1 hw2 (tl_len _ _ _) (by omega) _
          · have c4 : 0 < k := by omega
            replace B3 := B3 c4
            clear B1 c1'
            obtain ⟨pm, hpm, hpm2⟩ : ∃ pm : Nat, pm + m = im ∧ (k - 1) * m = pm := ⟨im - m, by rw [← HI.out]; have := Nat.le_mul_of_pos_left m c4; omega, by rw [← HI.out, Nat.sub_mul, Nat.one_mul]⟩
            have M2 : ((k : Int) - 1) * (m : Int) = (pm : Int) := by rw [← hpm2, show (k : Int) - 1 = ((k - 1 : Nat) : Int) by omega]; simp
            have HPM := Lib.hid hpm2
            clear hpm2
            by_cases c2' : l ≤ 0
            · replace B2 := B2 c2'
              clear B4
              obtain ⟨uu, huu⟩ : ∃ uu, Hid ((tb 1000000000 xs ys band) (k - 1) l = uu) := ⟨_, rfl⟩
              obtain ⟨uu0, uu1, uu2⟩ := RG.out (k - 1) l (by omega) hlt'
              rw [huu.out] at uu0 uu1 uu2
              have uuc : wr.cell? ⟨w.heap.size, pm + l, none⟩ = some (.int .i64 uu) := by
                have h9 := tl_at (tb 1000000000 xs ys band) (m := m) (i := (k - 1)) (j := l) (q := im + l) (by omega) (by have h6 := HPM.out; omega)
                rw [huu.out] at h9
                have h8 := tab_cell HW.out (by omega) h9
                have h7 : (k - 1) * m + (l) = pm + l := by have h6 := HPM.out; omega
                rwa [h7] at h8
              have AH : Hid (ahead 1000000000 (tb 1000000000 xs ys band) k l = min 1000000000 uu) := by unfold Hid ahead; rw [if_neg (by omega), show l = 0 by omega, lbF_c _ _ c4, ← show l = 0 by omega, huu.out]
              by_cases t1 : min 1000000000 uu = 1000000000
              · have HF : Hid ((tb 1000000000 xs ys band) k l = 1000000000) := by unfold Hid; rw [TE.out, AH.out]; exact fin_inf (.inl (by omega))
                go_wp2_with (first | (go_at_call 92; with_reducible refine (l00Min_any _ _ _).mono ?_; rintro e w' ⟨rfl, rfl⟩) | (go_at_call 103; with_reducible refine (l09Size_any _ _ (by omega) (by omega)).mono ?_; rintro e w' ⟨rfl, rfl⟩))
                refine ⟨⟨l + 1, by omega, by go_num, (by repeat (first | exact Below.refl _ _ | assumption | refine Below.drew ?_ | refine below_drewN ?_ _ | refine Below.alloc ?_ (by first | omega | (simp <;> omega)) _ | refine Below.setCell ?_ (by first | omega | (simp <;> omega)) _)), ?_⟩, by simp [intOf]; omega⟩
                have st := tl_step (tb 1000000000 xs ys band) (i := k) hlt'
                rw [HI.out, HF.out] at st
                rw [← Nat.add_assoc, st]
                exact put1 HW.out (tl_len _ _ _) (by omega) _
              · have t1' : (min 1000000000 uu == 1000000000) = false := by simp; omega
                have t1b : min 1000000000 uu < 1000000000 := by omega
                clear t1
                by_cases t2 : band < (((k : Int) - (l : Int)).natAbs : Int)
                · have HF : Hid ((tb 1000000000 xs ys band) k l = 1000000000) := by unfold Hid; rw [TE.out, AH.out]; exact fin_inf (.inr t2)
                  go_wp2_with (first | (go_at_call 92; with_reducible refine (l00Min_any _ _ _).mono ?_; rintro e w' ⟨rfl, rfl⟩) | (go_at_call 103; with_reducible refine (l09Size_any _ _ (by omega) (by omega)).mono ?_; rintro e w' ⟨rfl, rfl⟩))
                  refine ⟨⟨l + 1, by omega, by go_num, (by repeat (first | exact Below.refl _ _ | assumption | refine Below.drew ?_ | refine below_drewN ?_ _ | refine Below.alloc ?_ (by first | omega | (simp <;> omega)) _ | refine Below.setCell ?_ (by first | omega | (simp <;> omega)) _)), ?_⟩, by simp [intOf]; omega⟩
                  have st := tl_step (tb 1000000000 xs ys band) (i := k) hlt'
                  rw [HI.out, HF.out] at st
                  rw [← Nat.add_assoc, st]
                  exact put1 HW.out (tl_len _ _ _) (by omega) _
                · have HF : Hid ((tb 1000000000 xs ys band) k l = min 1000000000 uu + costF (x, y, d) (x', y', d')) := by unfold Hid; have h9 := fin_cost (inf := 1000000000) (band := band) (best := min 1000000000 uu) (by omega) (show away k l ≤ band by unfold away; omega) hx.out hx'.out; rw [TE.out, AH.out, h9]
                  have o1 : IntKind.i64.wrap (min 1000000000 uu + costF (x, y, d) (x', y', d')) = min 1000000000 uu + costF (x, y, d) (x', y', d') := IntWalk.i64_in _ (by omega)
                  have o2 : IntKind.i64.wrap ((im : Int) + (l : Int)) = (im : Int) + (l : Int) := IntWalk.i64_in _ (by omega)
                  have o3 : IntKind.i64.wrap (im : Int) = (im : Int) := IntWalk.i64_in _ (by omega)
                  go_wp2_with (first | (go_at_call 92; with_reducible refine (l00Min_any _ _ _).mono ?_; rintro e w' ⟨rfl, rfl⟩) | (go_at_call 103; with_reducible refine (l09Size_any _ _ (by omega) (by omega)).mono ?_; rintro e w' ⟨rfl, rfl⟩))
                  have a0 := (hbr.cell (p := ⟨b0, off0 + k * 3, none⟩) hbl).symm.trans q0
                  have a1 := (hbr.cell (p := ⟨b0, off0 + k * 3 + 1, none⟩) hbl).symm.trans q1
                  have a2 := (hbr.cell (p := ⟨b0, off0 + k * 3 + 2, none⟩) hbl).symm.trans q2
                  have g0 := (hbr.cell (p := ⟨b1, off1 + l * 3, none⟩) hbl').symm.trans p0
                  have g1 := (hbr.cell (p := ⟨b1, off1 + l * 3 + 1, none⟩) hbl').symm.trans p1
                  have g2 := (hbr.cell (p := ⟨b1, off1 + l * 3 + 2, none⟩) hbl').symm.trans p2
                  have hlN : im + l < N * 1 := by omega
                  have j5 : (0 : Int) ≤ (im : Int) + (l : Int) := by omega
                  have j6 : (im : Int) + (l : Int) < (N : Int) := by omega
                  have j7 : ((im : Int) + (l : Int)).toNat = im + l := by omega
                  clear q0 q1 q2 p0 p1 p2 e0 f0
                  go_region_held3 (fun w' => (∀ b o, b < w.heap.size → w'.cell? ⟨b, o, none⟩ = w.cell? ⟨b, o, none⟩) ∧ Below w.heap.size w w') (first | exact sk hbr.drew | (go_split_ands; first | exact sk (below_app ‹_› hbw2 (Below.size ‹_›)) | exact sk (Below.setCell (below_app hbr.drew hbw2 hbr.size) (Nat.le_refl _) _))) (first | (go_at_call 106; with_reducible refine (l09Cost_any x y d x' y' d' _ V1.out V2.out).mono ?_; rintro e w2 ⟨rfl, hbw2⟩; have hw2 := own_below (own_below HW.out ((Below.refl _ _).drew)) hbw2; obtain ⟨⟨v1, e1⟩, f1⟩ := own_cell hw2 (j := im + l) hlN))
                  go_split_ands
                  have hbx : Below w.heap.size w w2 := below_app hbr.drew hbw2 hbr.size
                  clear o1 o2 o3 j7
                  go_wp2
                  refine ⟨⟨l + 1, by omega, by go_num, hbx.setCell (Nat.le_refl _) _, ?_⟩, by simp [intOf]; omega⟩
                  have st := tl_step (tb 1000000000 xs ys band) (i := k) hlt'
                  rw [HI.out, HF.out] at st
                  rw [← Nat.add_assoc, st]
                  exact put1 hw2 (tl_len _ _ _) (by omega) _
            · have c3 : 0 < l := by omega
              replace B4 := B4 c3
              clear B2 c2'
              obtain ⟨ll, hll⟩ : ∃ ll, Hid ((tb 1000000000 xs ys band) k (l - 1) = ll) := ⟨_, rfl⟩
              obtain ⟨ll0, ll1, ll2⟩ := RG.out k (l - 1) hlt (by omega)
              rw [hll.out] at ll0 ll1 ll2
              have llc : wr.cell? ⟨w.heap.size, im + l - 1, none⟩ = some (.int .i64 ll) := by
                have h9 := tl_at (tb 1000000000 xs ys band) (m := m) (i := k) (j := l - 1) (q := im + l) (by omega) (by have h6 := HI.out; omega)
                rw [hll.out] at h9
                have h8 := tab_cell HW.out (by omega) h9
                have h7 : k * m + (l - 1) = im + l - 1 := by have h6 := HI.out; omega
                rwa [h7] at h8
              obtain ⟨uu, huu⟩ : ∃ uu, Hid ((tb 1000000000 xs ys band) (k - 1) l = uu) := ⟨_, rfl⟩
              obtain ⟨uu0, uu1, uu2⟩ := RG.out (k - 1) l (by omega) hlt'
              rw [huu.out] at uu0 uu1 uu2
              have uuc : wr.cell? ⟨w.heap.size, pm + l, none⟩ = some (.int .i64 uu) := by
                have h9 := tl_at (tb 1000000000 xs ys band) (m := m) (i := (k - 1)) (j := l) (q := im + l) (by omega) (by have h6 := HPM.out; omega)
                rw [huu.out] at h9
                have h8 := tab_cell HW.out (by omega) h9
                have h7 : (k - 1) * m + (l) = pm + l := by have h6 := HPM.out; omega
                rwa [h7] at h8
              obtain ⟨dd, hdd⟩ : ∃ dd, Hid ((tb 1000000000 xs ys band) (k - 1) (l - 1) = dd) := ⟨_, rfl⟩
              obtain ⟨dd0, dd1, dd2⟩ := RG.out (k - 1) (l - 1) (by omega) (by omega)
              rw [hdd.out] at dd0 dd1 dd2
              have ddc : wr.cell? ⟨w.heap.size, pm + l - 1, none⟩ = some (.int .i64 dd) := by
                have h9 := tl_at (tb 1000000000 xs ys band) (m := m) (i := (k - 1)) (j := l - 1) (q := im + l) (by omega) (by have h6 := HPM.out; omega)
                rw [hdd.out] at h9
                have h8 := tab_cell HW.out (by omega) h9
                have h7 : (k - 1) * m + (l - 1) = pm + l - 1 := by have h6 := HPM.out; omega
                rwa [h7] at h8
              have AH : Hid (ahead 1000000000 (tb 1000000000 xs ys band) k l = min 1000000000 (min dd (min uu ll))) := by unfold Hid ahead; rw [if_neg (by omega), lbF_d _ _ c4 c3, hdd.out, huu.out, hll.out]; omega
              by_cases t1 : min 1000000000 (min dd (min uu ll)) = 1000000000
              · have HF : Hid ((tb 1000000000 xs ys band) k l = 1000000000) := by unfold Hid; rw [TE.out, AH.out]; exact fin_inf (.inl (by omega))
                go_wp2_with (first | (go_at_call 92; with_reducible refine (l00Min_any _ _ _).mono ?_; rintro e w' ⟨rfl, rfl⟩) | (go_at_call 103; with_reducible refine (l09Size_any _ _ (by omega) (by omega)).mono ?_; rintro e w' ⟨rfl, rfl⟩))
                refine ⟨⟨l + 1, by omega, by go_num, (by repeat (first | exact Below.refl _ _ | assumption | refine Below.drew ?_ | refine below_drewN ?_ _ | refine Below.alloc ?_ (by first | omega | (simp <;> omega)) _ | refine Below.setCell ?_ (by first | omega | (simp <;> omega)) _)), ?_⟩, by simp [intOf]; omega⟩
                have st := tl_step (tb 1000000000 xs ys band) (i := k) hlt'
                rw [HI.out, HF.out] at st
                rw [← Nat.add_assoc, st]
                exact put1 HW.out (tl_len _ _ _) (by omega) _
              · have t1' : (min 1000000000 (min dd (min uu ll)) == 1000000000) = false := by simp; omega
                have t1b : min 1000000000 (min dd (min uu ll)) < 1000000000 := by omega
                clear t1
                by_cases t2 : band < (((k : Int) - (l : Int)).natAbs : Int)
                · have HF : Hid ((tb 1000000000 xs ys band) k l = 1000000000) := by unfold Hid; rw [TE.out, AH.out]; exact fin_inf (.inr t2)
                  go_wp2_with (first | (go_at_call 92; with_reducible refine (l00Min_any _ _ _).mono ?_; rintro e w' ⟨rfl, rfl⟩) | (go_at_call 103; with_reducible refine (l09Size_any _ _ (by omega) (by omega)).mono ?_; rintro e w' ⟨rfl, rfl⟩))
                  refine ⟨⟨l + 1, by omega, by go_num, (by repeat (first | exact Below.refl _ _ | assumption | refine Below.drew ?_ | refine below_drewN ?_ _ | refine Below.alloc ?_ (by first | omega | (simp <;> omega)) _ | refine Below.setCell ?_ (by first | omega | (simp <;> omega)) _)), ?_⟩, by simp [intOf]; omega⟩
                  have st := tl_step (tb 1000000000 xs ys band) (i := k) hlt'
                  rw [HI.out, HF.out] at st
                  rw [← Nat.add_assoc, st]
                  exact put1 HW.out (tl_len _ _ _) (by omega) _
                · have HF : Hid ((tb 1000000000 xs ys band) k l = min 1000000000 (min dd (min uu ll)) + costF (x, y, d) (x', y', d')) := by unfold Hid; have h9 := fin_cost (inf := 1000000000) (band := band) (best := min 1000000000 (min dd (min uu ll))) (by omega) (show away k l ≤ band by unfold away; omega) hx.out hx'.out; rw [TE.out, AH.out, h9]
                  have o1 : IntKind.i64.wrap (min 1000000000 (min dd (min uu ll)) + costF (x, y, d) (x', y', d')) = min 1000000000 (min dd (min uu ll)) + costF (x, y, d) (x', y', d') := IntWalk.i64_in _ (by omega)
                  have o2 : IntKind.i64.wrap ((im : Int) + (l : Int)) = (im : Int) + (l : Int) := IntWalk.i64_in _ (by omega)
                  have o3 : IntKind.i64.wrap (im : Int) = (im : Int) := IntWalk.i64_in _ (by omega)
                  go_wp2_with (first | (go_at_call 92; with_reducible refine (l00Min_any _ _ _).mono ?_; rintro e w' ⟨rfl, rfl⟩) | (go_at_call 103; with_reducible refine (l09Size_any _ _ (by omega) (by omega)).mono ?_; rintro e w' ⟨rfl, rfl⟩))
                  have a0 := (hbr.cell (p := ⟨b0, off0 + k * 3, none⟩) hbl).symm.trans q0
                  have a1 := (hbr.cell (p := ⟨b0, off0 + k * 3 + 1, none⟩) hbl).symm.trans q1
                  have a2 := (hbr.cell (p := ⟨b0, off0 + k * 3 + 2, none⟩) hbl).symm.trans q2
                  have g0 := (hbr.cell (p := ⟨b1, off1 + l * 3, none⟩) hbl').symm.trans p0
                  have g1 := (hbr.cell (p := ⟨b1, off1 + l * 3 + 1, none⟩) hbl').symm.trans p1
                  have g2 := (hbr.cell (p := ⟨b1, off1 + l * 3 + 2, none⟩) hbl').symm.trans p2
                  have hlN : im + l < N * 1 := by omega
                  have j5 : (0 : Int) ≤ (im : Int) + (l : Int) := by omega
                  have j6 : (im : Int) + (l : Int) < (N : Int) := by omega
                  have j7 : ((im : Int) + (l : Int)).toNat = im + l := by omega
                  clear q0 q1 q2 p0 p1 p2 e0 f0
                  go_region_held3 (fun w' => (∀ b o, b < w.heap.size → w'.cell? ⟨b, o, none⟩ = w.cell? ⟨b, o, none⟩) ∧ Below w.heap.size w w') (first | exact sk hbr.drew | (go_split_ands; first | exact sk (below_app ‹_› hbw2 (Below.size ‹_›)) | exact sk (Below.setCell (below_app hbr.drew hbw2 hbr.size) (Nat.le_refl _) _))) (first | (go_at_call 106; with_reducible refine (l09Cost_any x y d x' y' d' _ V1.out V2.out).mono ?_; rintro e w2 ⟨rfl, hbw2⟩; have hw2 := own_below (own_below HW.out ((Below.refl _ _).drew)) hbw2; obtain ⟨⟨v1, e1⟩, f1⟩ := own_cell hw2 (j := im + l) hlN))
                  go_split_ands
                  have hbx : Below w.heap.size w w2 := below_app hbr.drew hbw2 hbr.size
                  clear o1 o2 o3 j7
                  go_wp2
                  refine ⟨⟨l + 1, by omega, by go_num, hbx.setCell (Nat.le_refl _) _, ?_⟩, by simp [intOf]; omega⟩
                  have st := tl_step (tb 1000000000 xs ys band) (i := k) hlt'
                  rw [HI.out, HF.out] at st
                  rw [← Nat.add_assoc, st]
                  exact put1 hw2 (tl_len _ _ _) (by omega) _
        · have hlm' : l = m := by omega
          subst hlm'
          go_wp2
          refine ⟨⟨k + 1, by omega, by go_num, hbr, ?_⟩, by simp [intOf]; omega⟩
          rw [Nat.succ_mul]; exact hw
    · have hkn : k = n := by omega
      subst hkn
      go_wp2
      go_ret
      rw [HN.out] at hw ⊢
      exact ⟨rfl, by simpa using hw, hbr⟩
end Go.Proofs.Ytkldejbhhbgefaa
