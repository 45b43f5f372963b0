/- The law of SamePerceptron returns true for every input: the program's SamePerceptron and the reference's return the same. No condition: every argument that can be read. -/
import Derived.Test.YtammapaockmjkaaPr
import Derived.Test.YtammapaockmjkaaGn
import Derived.Test.YtammapaockmjkaaAr
import Derived.ProofKit
import Derived.Deep.RegionHeld3
import Derived.ChangeOld
namespace Go.Proofs.Ytammapaockmjkaa
open Go.ChangeShapes Go.WideShapes Go.ChangeAt Go.RowKit
namespace fnExactSamePerceptron
set_option linter.unusedVariables false
theorem walk (A0 : Option Addr) (n0 cp0 : Nat) (C0 : Option Addr) (m0 d0 : Nat) (xs0 : List ByteArray) (ys0 : List (List Int)) (A1 : Option Addr) (n1 cp1 : Nat) (C1 : Option Addr) (m1 d1 : Nat) (xs1 : List ByteArray) (ys1 : List (List Int)) (w : World) (r0 : RdL cs1 1 w w.heap.size A0 n0 cp0 xs0) (gs0 : ∀ x ∈ xs0, x.size ≤ maxLen) (t0 : ML w w.heap.size C0 m0 d0 ys0) (g0 : ∀ x ∈ ys0, ∀ q ∈ x, I64 q) (r1 : RdL cs1 1 w w.heap.size A1 n1 cp1 xs1) (gs1 : ∀ x ∈ xs1, x.size ≤ maxLen) (t1 : ML w w.heap.size C1 m1 d1 ys1) (g1 : ∀ x ∈ ys1, ∀ q ∈ x, I64 q) :
    Calls Try.prog 4 #[.agg #[.slice A0 n0 cp0, .slice C0 m0 d0], .agg #[.slice A1 n1 cp1, .slice C1 m1 d1]] w fun e w' => e = .returned (.bool true) ∧ Below w.heap.size w w' := by
  by_cases hbig : totS xs0 + totM ys0 + totS xs1 + totM ys1 ≤ 1048576
  · have htotS_xs0 : totS xs0 ≤ 1048576 := by omega
    have htotM_ys0 : totM ys0 ≤ 1048576 := by omega
    have htotS_xs1 : totS xs1 ≤ 1048576 := by omega
    have htotM_ys1 : totM ys1 ≤ 1048576 := by omega
    have hn0 : n0 ≤ 1048576 := by have := totS_len xs0; rw [r0.len] at this; omega
    have hn1 : n1 ≤ 1048576 := by have := totS_len xs1; rw [r1.len] at this; omega
    go_enter Try.func4, Try.ntmps4
    go_wp2_with fail
    have B0 : Below w.heap.size w ((w.alloc (.cells #[.slice A0 n0 cp0, .slice C0 m0 d0] 41)).alloc (.cells #[.slice A1 n1 cp1, .slice C1 m1 d1] 41)) := (by repeat (first | exact Below.refl _ _ | assumption | refine Below.drew ?_ | refine below_drewN ?_ _ | refine Below.alloc ?_ (by first | omega | (simp <;> omega)) _ | refine Below.setCell ?_ (by first | omega | (simp <;> omega)) _))
    have P0 : Blk ((w.alloc (.cells #[.slice A0 n0 cp0, .slice C0 m0 d0] 41)).alloc (.cells #[.slice A1 n1 cp1, .slice C1 m1 d1] 41)) (w.heap.size) 41 #[.slice A0 n0 cp0, .slice C0 m0 d0] := by have hk := (Blk.new w 41 #[.slice A0 n0 cp0, .slice C0 m0 d0]).alloc (.cells #[.slice A1 n1 cp1, .slice C1 m1 d1] 41); simpa using hk
    have P1 : Blk ((w.alloc (.cells #[.slice A0 n0 cp0, .slice C0 m0 d0] 41)).alloc (.cells #[.slice A1 n1 cp1, .slice C1 m1 d1] 41)) (w.heap.size + 1) 41 #[.slice A1 n1 cp1, .slice C1 m1 d1] := by have hk := Blk.new (w.alloc (.cells #[.slice A0 n0 cp0, .slice C0 m0 d0] 41)) 41 #[.slice A1 n1 cp1, .slice C1 m1 d1]; simpa using hk
    generalize ((w.alloc (.cells #[.slice A0 n0 cp0, .slice C0 m0 d0] 41)).alloc (.cells #[.slice A1 n1 cp1, .slice C1 m1 d1] 41)) = v at *
    have Bv : Below v.heap.size v v := Below.refl _ _
    have zv := B0.size
    with_reducible refine (szPer_yes _ _ _ _ _ _ xs0 ys0 _ _ (r0.on B0) gs0 (t0.on B0) (by omega) (by omega) (by omega)).mono ?_
    rintro e w1 ⟨rfl, hbw1⟩
    have zw1 := hbw1.size
    replace B0 := below_on hbw1 B0
    replace Bv := below_on hbw1 Bv
    have kk0 := (P1.on Bv)
    have kc0_0 := kk0.cell 0
    have kc0_1 := kk0.cell 1
    simp only [List.getElem?_toArray, List.getElem?_cons_succ, List.getElem?_cons_zero] at kc0_0 kc0_1
    have kz0 := kk0.lt
    go_wp2_with fail
    clear kk0 kz0 kc0_0 kc0_1
    with_reducible refine (szPer_yes _ _ _ _ _ _ xs1 ys1 _ _ (r1.on B0) gs1 (t1.on B0) (by omega) (by omega) (by omega)).mono ?_
    rintro e w2 ⟨rfl, hbw2⟩
    have zw2 := hbw2.size
    replace B0 := below_on hbw2 B0
    replace Bv := below_on hbw2 Bv
    have hzl : (0 : Int) ≤ 1048576 - (totS xs0 : Int) - (totM ys0 : Int) - (totS xs1 : Int) - (totM ys1 : Int) := by omega
    have kk0 := (P0.on Bv)
    have kc0_0 := kk0.cell 0
    have kc0_1 := kk0.cell 1
    simp only [List.getElem?_toArray, List.getElem?_cons_succ, List.getElem?_cons_zero] at kc0_0 kc0_1
    have kz0 := kk0.lt
    have kk1 := (P1.on Bv)
    have kc1_0 := kk1.cell 0
    have kc1_1 := kk1.cell 1
    simp only [List.getElem?_toArray, List.getElem?_cons_succ, List.getElem?_cons_zero] at kc1_0 kc1_1
    have kz1 := kk1.lt
    go_wp2_with fail
    replace B0 := Below.drew B0
    replace Bv := Below.drew Bv
    go_region_held3 (fun w' => (∀ b o, b < w2.heap.size → w'.cell? ⟨b, o, none⟩ = w2.cell? ⟨b, o, none⟩) ∧ Below w2.heap.size w2 w') (first | exact sk (Below.refl _ _).drew | (go_split_ands; first | exact sk (below_app ‹_› hbw3 (Below.size ‹_›)) | exact sk (below_app ‹_› hbw4 (Below.size ‹_›)) | exact sk (below_app ‹_› hbw5 (Below.size ‹_›)))) (first | (go_at_call 25; with_reducible refine (toPer_any A0 n0 cp0 C0 m0 d0 xs0 ys0 _ (r0.on B0) (t0.on B0) hn0 htotM_ys0).mono ?_; rintro e w3 ⟨qw3, pw3, rfl, rw3, tw3, hbw3⟩; have zw3 := hbw3.size; rw [hs_drew] at zw3; replace B0 := below_on hbw3 B0; replace Bv := below_on hbw3 Bv; have Bw3 : Below w3.heap.size w3 w3 := Below.refl _ _) | (go_at_call 25; with_reducible refine (toPer_any A1 n1 cp1 C1 m1 d1 xs1 ys1 _ (r1.on B0) (t1.on B0) hn1 htotM_ys1).mono ?_; rintro e w4 ⟨qw4, pw4, rfl, rw4, tw4, hbw4⟩; have zw4 := hbw4.size; replace B0 := below_on hbw4 B0; replace Bv := below_on hbw4 Bv; replace Bw3 := below_on hbw4 Bw3; have Bw4 : Below w4.heap.size w4 w4 := Below.refl _ _) | (go_at_call 24; with_reducible refine (sSamePer_any _ _ _ _ _ _ _ _ _ _ _ _  xs0 xs1 ys0 ys1 _ (rw3.on Bw3) (rw4.on Bw4) (tw3.on Bw3) (tw4.on Bw4) hn0 htotM_ys0).mono ?_; rintro e w5 ⟨rfl, hbw5⟩; have zw5 := hbw5.size; replace B0 := below_on hbw5 B0; replace Bv := below_on hbw5 Bv; replace Bw3 := below_on hbw5 Bw3; replace Bw4 := below_on hbw5 Bw4))
    clear kk0 kz0 kc0_0 kc0_1 kk1 kz1 kc1_0 kc1_1
    go_split_ands
    clear Bw3
    clear Bw4
    have kk0 := (P0.on Bv)
    have kc0_0 := kk0.cell 0
    have kc0_1 := kk0.cell 1
    simp only [List.getElem?_toArray, List.getElem?_cons_succ, List.getElem?_cons_zero] at kc0_0 kc0_1
    have kz0 := kk0.lt
    go_wp2_with fail
    clear kk0 kz0 kc0_0 kc0_1
    with_reducible refine (toPer_any A0 n0 cp0 C0 m0 d0 xs0 ys0 _ (r0.on B0) (t0.on B0) hn0 htotM_ys0).mono ?_
    rintro e w6 ⟨qw6, pw6, rfl, rw6, tw6, hbw6⟩
    have zw6 := hbw6.size
    replace B0 := below_on hbw6 B0
    replace Bv := below_on hbw6 Bv
    have Bw6 : Below w6.heap.size w6 w6 := Below.refl _ _
    have kk0 := (P1.on Bv)
    have kc0_0 := kk0.cell 0
    have kc0_1 := kk0.cell 1
    simp only [List.getElem?_toArray, List.getElem?_cons_succ, List.getElem?_cons_zero] at kc0_0 kc0_1
    have kz0 := kk0.lt
    go_wp2_with fail
    clear kk0 kz0 kc0_0 kc0_1
    generalize hW : w6.alloc (.cells #[.slice (some ⟨qw6, 0, none⟩) n0 n0, .slice (some ⟨pw6, 0, none⟩) m0 m0] 44) = w7
    have hbw7 : Below w6.heap.size w6 w7 := by rw [← hW]; exact (Below.refl _ _).alloc (Nat.le_refl _) _
    have Jw7 : Blk w7 w6.heap.size 44 #[.slice (some ⟨qw6, 0, none⟩) n0 n0, .slice (some ⟨pw6, 0, none⟩) m0 m0] := by rw [← hW]; exact Blk.new _ _ _
    clear hW
    have zw7 := hbw7.size
    replace B0 := below_on hbw7 B0
    replace Bv := below_on hbw7 Bv
    replace Bw6 := below_on hbw7 Bw6
    have Bw7 : Below w7.heap.size w7 w7 := Below.refl _ _
    with_reducible refine (toPer_any A1 n1 cp1 C1 m1 d1 xs1 ys1 _ (r1.on B0) (t1.on B0) hn1 htotM_ys1).mono ?_
    rintro e w8 ⟨qw8, pw8, rfl, rw8, tw8, hbw8⟩
    have zw8 := hbw8.size
    replace B0 := below_on hbw8 B0
    replace Bv := below_on hbw8 Bv
    replace Bw6 := below_on hbw8 Bw6
    replace Bw7 := below_on hbw8 Bw7
    have Bw8 : Below w8.heap.size w8 w8 := Below.refl _ _
    have kk0 := (Jw7.on Bw7)
    have kc0_0 := kk0.cell 0
    have kc0_1 := kk0.cell 1
    simp only [List.getElem?_toArray, List.getElem?_cons_succ, List.getElem?_cons_zero] at kc0_0 kc0_1
    have kz0 := kk0.lt
    go_wp2_with fail
    clear kk0 kz0 kc0_0 kc0_1
    generalize hW : w8.alloc (.cells #[.slice (some ⟨qw8, 0, none⟩) n1 n1, .slice (some ⟨pw8, 0, none⟩) m1 m1] 44) = w9
    have hbw9 : Below w8.heap.size w8 w9 := by rw [← hW]; exact (Below.refl _ _).alloc (Nat.le_refl _) _
    have Jw9 : Blk w9 w8.heap.size 44 #[.slice (some ⟨qw8, 0, none⟩) n1 n1, .slice (some ⟨pw8, 0, none⟩) m1 m1] := by rw [← hW]; exact Blk.new _ _ _
    clear hW
    have zw9 := hbw9.size
    replace B0 := below_on hbw9 B0
    replace Bv := below_on hbw9 Bv
    replace Bw6 := below_on hbw9 Bw6
    replace Bw7 := below_on hbw9 Bw7
    replace Bw8 := below_on hbw9 Bw8
    have Bw9 : Below w9.heap.size w9 w9 := Below.refl _ _
    with_reducible refine (iSamePer_any _ _ _ _ _ _ _ _ _ _ _ _  xs0 xs1 ys0 ys1 _ (rw6.on Bw6) (rw8.on Bw8) (tw6.on Bw6) (tw8.on Bw8) hn0 htotM_ys0).mono ?_
    rintro e w10 ⟨rfl, hbw10⟩
    have zw10 := hbw10.size
    replace B0 := below_on hbw10 B0
    replace Bv := below_on hbw10 Bv
    replace Bw6 := below_on hbw10 Bw6
    replace Bw7 := below_on hbw10 Bw7
    replace Bw8 := below_on hbw10 Bw8
    replace Bw9 := below_on hbw10 Bw9
    have kk0 := (P0.on Bv)
    have kc0_0 := kk0.cell 0
    have kc0_1 := kk0.cell 1
    simp only [List.getElem?_toArray, List.getElem?_cons_succ, List.getElem?_cons_zero] at kc0_0 kc0_1
    have kz0 := kk0.lt
    have kk1 := (Jw7.on Bw7)
    have kc1_0 := kk1.cell 0
    have kc1_1 := kk1.cell 1
    simp only [List.getElem?_toArray, List.getElem?_cons_succ, List.getElem?_cons_zero] at kc1_0 kc1_1
    have kz1 := kk1.lt
    go_wp2_with fail
    replace B0 := Below.drew B0
    replace Bv := Below.drew Bv
    replace Bw6 := Below.drew Bw6
    replace Bw7 := Below.drew Bw7
    replace Bw8 := Below.drew Bw8
    replace Bw9 := Below.drew Bw9
    go_region_held3 (fun w' => (∀ b o, b < w10.heap.size → w'.cell? ⟨b, o, none⟩ = w10.cell? ⟨b, o, none⟩) ∧ Below w10.heap.size w10 w') (first | exact sk (Below.refl _ _).drew | (go_split_ands; first | exact sk (below_app ‹_› hbw11 (Below.size ‹_›)) | exact sk (below_app ‹_› hbw12 (Below.size ‹_›)))) (first | (go_at_call 25; with_reducible refine (toPer_any A0 n0 cp0 C0 m0 d0 xs0 ys0 _ (r0.on B0) (t0.on B0) hn0 htotM_ys0).mono ?_; rintro e w11 ⟨qw11, pw11, rfl, rw11, tw11, hbw11⟩; have zw11 := hbw11.size; rw [hs_drew] at zw11; replace B0 := below_on hbw11 B0; replace Bv := below_on hbw11 Bv; replace Bw6 := below_on hbw11 Bw6; replace Bw7 := below_on hbw11 Bw7; replace Bw8 := below_on hbw11 Bw8; replace Bw9 := below_on hbw11 Bw9; have Bw11 : Below w11.heap.size w11 w11 := Below.refl _ _) | (go_at_call 27; with_reducible refine (eqPer_yes _ _ _ _ _ _ _ _ _ _ _ _  xs0 ys0 _ (rw6.on Bw6) (rw11.on Bw11) (tw6.on Bw6) (tw11.on Bw11) hn0 htotM_ys0).mono ?_; rintro e w12 ⟨rfl, hbw12⟩; have zw12 := hbw12.size; replace B0 := below_on hbw12 B0; replace Bv := below_on hbw12 Bv; replace Bw6 := below_on hbw12 Bw6; replace Bw7 := below_on hbw12 Bw7; replace Bw8 := below_on hbw12 Bw8; replace Bw9 := below_on hbw12 Bw9; replace Bw11 := below_on hbw12 Bw11))
    clear kk0 kz0 kc0_0 kc0_1 kk1 kz1 kc1_0 kc1_1
    go_split_ands
    have kk0 := (P1.on Bv)
    have kc0_0 := kk0.cell 0
    have kc0_1 := kk0.cell 1
    simp only [List.getElem?_toArray, List.getElem?_cons_succ, List.getElem?_cons_zero] at kc0_0 kc0_1
    have kz0 := kk0.lt
    have kk1 := (Jw9.on Bw9)
    have kc1_0 := kk1.cell 0
    have kc1_1 := kk1.cell 1
    simp only [List.getElem?_toArray, List.getElem?_cons_succ, List.getElem?_cons_zero] at kc1_0 kc1_1
    have kz1 := kk1.lt
    go_wp2_with fail
    replace B0 := Below.drew B0
    replace Bv := Below.drew Bv
    replace Bw6 := Below.drew Bw6
    replace Bw7 := Below.drew Bw7
    replace Bw8 := Below.drew Bw8
    replace Bw9 := Below.drew Bw9
    replace Bw11 := Below.drew Bw11
    go_region_held3 (fun w' => (∀ b o, b < w12.heap.size → w'.cell? ⟨b, o, none⟩ = w12.cell? ⟨b, o, none⟩) ∧ Below w12.heap.size w12 w') (first | exact sk (Below.refl _ _).drew | (go_split_ands; first | exact sk (below_app ‹_› hbw13 (Below.size ‹_›)) | exact sk (below_app ‹_› hbw14 (Below.size ‹_›)))) (first | (go_at_call 25; with_reducible refine (toPer_any A1 n1 cp1 C1 m1 d1 xs1 ys1 _ (r1.on B0) (t1.on B0) hn1 htotM_ys1).mono ?_; rintro e w13 ⟨qw13, pw13, rfl, rw13, tw13, hbw13⟩; have zw13 := hbw13.size; rw [hs_drew] at zw13; replace B0 := below_on hbw13 B0; replace Bv := below_on hbw13 Bv; replace Bw6 := below_on hbw13 Bw6; replace Bw7 := below_on hbw13 Bw7; replace Bw8 := below_on hbw13 Bw8; replace Bw9 := below_on hbw13 Bw9; replace Bw11 := below_on hbw13 Bw11; have Bw13 : Below w13.heap.size w13 w13 := Below.refl _ _) | (go_at_call 27; with_reducible refine (eqPer_yes _ _ _ _ _ _ _ _ _ _ _ _  xs1 ys1 _ (rw8.on Bw8) (rw13.on Bw13) (tw8.on Bw8) (tw13.on Bw13) hn1 htotM_ys1).mono ?_; rintro e w14 ⟨rfl, hbw14⟩; have zw14 := hbw14.size; replace B0 := below_on hbw14 B0; replace Bv := below_on hbw14 Bv; replace Bw6 := below_on hbw14 Bw6; replace Bw7 := below_on hbw14 Bw7; replace Bw8 := below_on hbw14 Bw8; replace Bw9 := below_on hbw14 Bw9; replace Bw11 := below_on hbw14 Bw11; replace Bw13 := below_on hbw14 Bw13))
    clear kk0 kz0 kc0_0 kc0_1 kk1 kz1 kc1_0 kc1_1
    go_split_ands
    go_wp2
    go_ret
    exact ⟨rfl, B0⟩
  · by_cases hs0 : totS xs0 + totM ys0 ≤ 1048576
    · go_enter Try.func4, Try.ntmps4
      go_wp2_with fail
      have B0 : Below w.heap.size w ((w.alloc (.cells #[.slice A0 n0 cp0, .slice C0 m0 d0] 41)).alloc (.cells #[.slice A1 n1 cp1, .slice C1 m1 d1] 41)) := (by repeat (first | exact Below.refl _ _ | assumption | refine Below.drew ?_ | refine below_drewN ?_ _ | refine Below.alloc ?_ (by first | omega | (simp <;> omega)) _ | refine Below.setCell ?_ (by first | omega | (simp <;> omega)) _))
      have P0 : Blk ((w.alloc (.cells #[.slice A0 n0 cp0, .slice C0 m0 d0] 41)).alloc (.cells #[.slice A1 n1 cp1, .slice C1 m1 d1] 41)) (w.heap.size) 41 #[.slice A0 n0 cp0, .slice C0 m0 d0] := by have hk := (Blk.new w 41 #[.slice A0 n0 cp0, .slice C0 m0 d0]).alloc (.cells #[.slice A1 n1 cp1, .slice C1 m1 d1] 41); simpa using hk
      have P1 : Blk ((w.alloc (.cells #[.slice A0 n0 cp0, .slice C0 m0 d0] 41)).alloc (.cells #[.slice A1 n1 cp1, .slice C1 m1 d1] 41)) (w.heap.size + 1) 41 #[.slice A1 n1 cp1, .slice C1 m1 d1] := by have hk := Blk.new (w.alloc (.cells #[.slice A0 n0 cp0, .slice C0 m0 d0] 41)) 41 #[.slice A1 n1 cp1, .slice C1 m1 d1]; simpa using hk
      generalize ((w.alloc (.cells #[.slice A0 n0 cp0, .slice C0 m0 d0] 41)).alloc (.cells #[.slice A1 n1 cp1, .slice C1 m1 d1] 41)) = v at *
      have Bv : Below v.heap.size v v := Below.refl _ _
      have zv := B0.size
      with_reducible refine (szPer_yes _ _ _ _ _ _ xs0 ys0 _ _ (r0.on B0) gs0 (t0.on B0) (by omega) (by omega) (by omega)).mono ?_
      rintro e w1 ⟨rfl, hbw1⟩
      have zw1 := hbw1.size
      replace B0 := below_on hbw1 B0
      replace Bv := below_on hbw1 Bv
      have kk0 := (P1.on Bv)
      have kc0_0 := kk0.cell 0
      have kc0_1 := kk0.cell 1
      simp only [List.getElem?_toArray, List.getElem?_cons_succ, List.getElem?_cons_zero] at kc0_0 kc0_1
      have kz0 := kk0.lt
      go_wp2_with fail
      clear kk0 kz0 kc0_0 kc0_1
      with_reducible refine (szPer_no _ _ _ _ _ _ xs1 ys1 _ _ (r1.on B0) gs1 (t1.on B0) (by omega) (by omega) (by omega)).mono ?_
      rintro e w2 ⟨rfl, hbw2⟩
      have zw2 := hbw2.size
      replace B0 := below_on hbw2 B0
      replace Bv := below_on hbw2 Bv
      go_wp2
      go_ret
      exact ⟨rfl, B0⟩
    · go_enter Try.func4, Try.ntmps4
      go_wp2_with fail
      have B0 : Below w.heap.size w ((w.alloc (.cells #[.slice A0 n0 cp0, .slice C0 m0 d0] 41)).alloc (.cells #[.slice A1 n1 cp1, .slice C1 m1 d1] 41)) := (by repeat (first | exact Below.refl _ _ | assumption | refine Below.drew ?_ | refine below_drewN ?_ _ | refine Below.alloc ?_ (by first | omega | (simp <;> omega)) _ | refine Below.setCell ?_ (by first | omega | (simp <;> omega)) _))
      have P0 : Blk ((w.alloc (.cells #[.slice A0 n0 cp0, .slice C0 m0 d0] 41)).alloc (.cells #[.slice A1 n1 cp1, .slice C1 m1 d1] 41)) (w.heap.size) 41 #[.slice A0 n0 cp0, .slice C0 m0 d0] := by have hk := (Blk.new w 41 #[.slice A0 n0 cp0, .slice C0 m0 d0]).alloc (.cells #[.slice A1 n1 cp1, .slice C1 m1 d1] 41); simpa using hk
      have P1 : Blk ((w.alloc (.cells #[.slice A0 n0 cp0, .slice C0 m0 d0] 41)).alloc (.cells #[.slice A1 n1 cp1, .slice C1 m1 d1] 41)) (w.heap.size + 1) 41 #[.slice A1 n1 cp1, .slice C1 m1 d1] := by have hk := Blk.new (w.alloc (.cells #[.slice A0 n0 cp0, .slice C0 m0 d0] 41)) 41 #[.slice A1 n1 cp1, .slice C1 m1 d1]; simpa using hk
      generalize ((w.alloc (.cells #[.slice A0 n0 cp0, .slice C0 m0 d0] 41)).alloc (.cells #[.slice A1 n1 cp1, .slice C1 m1 d1] 41)) = v at *
      have Bv : Below v.heap.size v v := Below.refl _ _
      have zv := B0.size
      with_reducible refine (szPer_no _ _ _ _ _ _ xs0 ys0 _ _ (r0.on B0) gs0 (t0.on B0) (by omega) (by omega) (by omega)).mono ?_
      rintro e w1 ⟨rfl, hbw1⟩
      have zw1 := hbw1.size
      replace B0 := below_on hbw1 B0
      replace Bv := below_on hbw1 Bv
      go_wp2
      go_ret
      exact ⟨rfl, B0⟩

/-! ### From the walk to the statement -/
set_option maxRecDepth 100000 in
theorem lifted (os : Os) (started : os.Started) (H : Type) (enc : TypeId × Value → H) :
    ReturnsInHanded {} Try.checked os 4 .any (Rows.fnExactSamePerceptronSpec.pre6 enc Try.prog Try.f4 Rows.fnExactSamePerceptronRow.domain false) (Rows.fnExactSamePerceptronSpec.post enc Try.prog Try.f4 false true false false) := by
  refine returnsInHanded_of_change (C := Try.checked) Try.own started (by kernel_rfl) Try.func4
    (ChangeSpec.witness6 (enc := enc) (C := Try.checked) false ⟨#[], #[.agg #[.slice none 0 0, .slice none 0 0], .agg #[.slice none 0 0, .slice none 0 0]], []⟩ 8 (by kernel_rfl) (by kernel_rfl) (by kernel_rfl) (by kernel_rfl)) ?_
  intro W base args ds gs before hval0 hW hcnd _
  have hval : ∀ (j : Nat) t v, Try.f4.params[j]? = some t → args[j]? = some v → Value.okWide Try.prog W .any base t v := hval0
  have hW' := hW
  obtain ⟨p, q, hA0, hV, rfl, hfz, hnd⟩ := hW
  have hA : DataW.TrodAll enc Try.prog W 0 (fun _ => true) true Try.f4.params.toList args.toList ds p := hA0
  rw [Try.params4] at hA hval
  obtain ⟨v0, vs0, d0, ds0, p0, q0, hargs, rfl, rfl, h0, tr0⟩ := trodAll_cons hA
  obtain ⟨v1, vs1, d1, ds1, p1, q1, rfl, rfl, rfl, h1, tr1⟩ := trodAll_cons tr0
  obtain ⟨rfl, rfl, rfl⟩ := trodAll_nil tr1
  obtain rfl : args = #[v0, v1] := by cases args; simp_all
  obtain ⟨rfl, rfl⟩ := trodVars_none hV
  have k0 := h0
  have lt0 : ∀ x ∈ p0, x.block < W.heap.size := by obtain ⟨m, hm⟩ := k0; exact DataW.trod_lt m _ _ _ hm
  obtain ⟨A0, n0, cp0, C0, m0, d0, xs0, ys0, rfl, r0, gs0, t0, g0⟩ := opPerceptron (hval 0 41 v0 rfl rfl) h0
  have k1 := h1
  have lt1 : ∀ x ∈ p1, x.block < W.heap.size := by obtain ⟨m, hm⟩ := k1; exact DataW.trod_lt m _ _ _ hm
  obtain ⟨A1, n1, cp1, C1, m1, d1, xs1, ys1, rfl, r1, gs1, t1, g1⟩ := opPerceptron (hval 1 41 v1 rfl rfl) h1
  clear hA0 hval0
  refine (walk A0 n0 cp0 C0 m0 d0 xs0 ys0 A1 n1 cp1 C1 m1 d1 xs1 ys1 W r0 gs0 t0 g0 r1 gs1 t1 g1).mono fun e W' ⟨he, bel⟩ => ?_
  subst he
  exact ⟨_, rfl, _, _, _, [], _, [], hW', trodAll_mk1 (shut_bool Try.underlying4 _), (trodAll_cons_mk (Below.trod Try.laidOut (by kernel_rfl) (of_decide_eq_true (by kernel_rfl)) k0 bel lt0) (trodAll_cons_mk (Below.trod Try.laidOut (by kernel_rfl) (of_decide_eq_true (by kernel_rfl)) k1 bel lt1) trodAll_mk0)), rfl, bel.frame _, fun h => by cases h⟩

theorem over : Rows.fnExactSamePerceptronRow.holds Try.pinned (OpenSpec.ofChange Rows.fnExactSamePerceptronSpec) :=
  OpenClaim.holds_of_wide 4 Try.f4 rfl rfl rfl rfl rfl rfl rfl ⟨rfl, rfl, rfl, rfl, rfl⟩ rfl rfl rfl rfl rfl (by kernel_rfl) Try.func4 (by kernel_rfl)
    (of_decide_eq_true (by kernel_rfl)) (by unfold Func.isWrapper; first | (rw [if_pos (by decide +kernel)]; kernel_rfl) | (rw [if_neg (by decide +kernel)]; exact ⟨rfl, rfl⟩))
    (fun os started H enc _ => lifted os started H enc)

theorem proved : Rows.FnExactSamePerceptronSaid := over
end fnExactSamePerceptron
end Go.Proofs.Ytammapaockmjkaa
