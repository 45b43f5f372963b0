/- The law of OutsideOf returns true for every input: the program's OutsideOf and the reference's return the same. No condition: every argument that can be read. -/
import Derived.Test.YtoaeclnhhciimaaOu
import Derived.Test.YtoaeclnhhciimaaEq
import Derived.Test.YtoaeclnhhciimaaGn
import Derived.Test.YtoaeclnhhciimaaAr
import Derived.ProofKit
import Derived.Deep.RegionHeld3
import Derived.ChangeOld
namespace Go.Proofs.Ytoaeclnhhciimaa
open Go.ChangeShapes Go.WideShapes Go.ChangeAt Go.RowKit
namespace fnExactOutsideOf
set_option linter.unusedVariables false
theorem walk (A0 : Option Addr) (n0 cp0 : Nat) (xs0 : List T3) (A1 B1 C1 D1 : Option Addr) (na1 ca1 nb1 cb1 nc1 cc1 nd1 cd1 : Nat) (la1 lb1 lc1 ld1 : List Int) (w : World) (r0 : RdL c3 3 w w.heap.size A0 n0 cp0 xs0) (g0 : ∀ x ∈ xs0, ok3 x) (ra1 : RdL c1 1 w w.heap.size A1 na1 ca1 la1) (rb1 : RdL c1 1 w w.heap.size B1 nb1 cb1 lb1) (rc1 : RdL c1 1 w w.heap.size C1 nc1 cc1 lc1) (rd1 : RdL c1 1 w w.heap.size D1 nd1 cd1 ld1) (ga1 : ∀ x ∈ la1, I64 x) (gb1 : ∀ x ∈ lb1, I64 x) (gc1 : ∀ x ∈ lc1, I64 x) (gd1 : ∀ x ∈ ld1, I64 x) :
    Calls Try.prog 10 #[.slice A0 n0 cp0, .agg #[.slice A1 na1 ca1, .slice B1 nb1 cb1, .slice C1 nc1 cc1, .slice D1 nd1 cd1]] w fun e w' => e = .returned (.bool true) ∧ Below w.heap.size w w' := by
  have m0 : n0 ≤ 9223372036854775807 := Nat.le_trans r0.cap r0.capm
  have ma1 : na1 ≤ 9223372036854775807 := Nat.le_trans ra1.cap ra1.capm
  have mb1 : nb1 ≤ 9223372036854775807 := Nat.le_trans rb1.cap rb1.capm
  have mc1 : nc1 ≤ 9223372036854775807 := Nat.le_trans rc1.cap rc1.capm
  have md1 : nd1 ≤ 9223372036854775807 := Nat.le_trans rd1.cap rd1.capm
  by_cases hbig : n0 + na1 + nb1 + nc1 + nd1 ≤ 1048576
  · have hn0 : n0 ≤ 1048576 := by omega
    have hna1 : na1 ≤ 1048576 := by omega
    have hnb1 : nb1 ≤ 1048576 := by omega
    have hnc1 : nc1 ≤ 1048576 := by omega
    have hnd1 : nd1 ≤ 1048576 := by omega
    go_enter Try.func10, Try.ntmps10
    go_wp2_with fail
    have B0 : Below w.heap.size w (w.alloc (.cells #[.slice A1 na1 ca1, .slice B1 nb1 cb1, .slice C1 nc1 cc1, .slice D1 nd1 cd1] 24)) := (by repeat (first | exact Below.refl _ _ | assumption | refine Below.drew ?_ | refine below_drewN ?_ _ | refine Below.alloc ?_ (by first | omega | (simp <;> omega)) _ | refine Below.setCell ?_ (by first | omega | (simp <;> omega)) _))
    have P1 : Blk (w.alloc (.cells #[.slice A1 na1 ca1, .slice B1 nb1 cb1, .slice C1 nc1 cc1, .slice D1 nd1 cd1] 24)) (w.heap.size) 24 #[.slice A1 na1 ca1, .slice B1 nb1 cb1, .slice C1 nc1 cc1, .slice D1 nd1 cd1] := by have hk := Blk.new w 24 #[.slice A1 na1 ca1, .slice B1 nb1 cb1, .slice C1 nc1 cc1, .slice D1 nd1 cd1]; simpa using hk
    generalize (w.alloc (.cells #[.slice A1 na1 ca1, .slice B1 nb1 cb1, .slice C1 nc1 cc1, .slice D1 nd1 cd1] 24)) = v at *
    have Bv : Below v.heap.size v v := Below.refl _ _
    have zv := B0.size
    with_reducible refine (szFeatS_yes _ _ _ _ _ (by omega) (by omega) (by omega) (by omega)).mono ?_
    rintro e w' ⟨rfl, rfl⟩
    have kk0 := (P1.on Bv)
    have kc0_0 := kk0.cell 0
    have kc0_1 := kk0.cell 1
    have kc0_2 := kk0.cell 2
    have kc0_3 := kk0.cell 3
    simp only [List.getElem?_toArray, List.getElem?_cons_succ, List.getElem?_cons_zero] at kc0_0 kc0_1 kc0_2 kc0_3
    have kz0 := kk0.lt
    go_wp2_with fail
    clear kk0 kz0 kc0_0 kc0_1 kc0_2 kc0_3
    with_reducible refine (szEnv_yes _ _ _ _ _ _ _ _ _ _ _ _ _ _ ma1 mb1 mc1 md1 (by omega) (by omega) (by omega)).mono ?_
    rintro e w1 ⟨rfl, hbw1⟩
    have zw1 := hbw1.size
    replace B0 := below_on hbw1 B0
    replace Bv := below_on hbw1 Bv
    have hzl : (0 : Int) ≤ 1048576 - (n0 : Int) - (na1 : Int) - (nb1 : Int) - (nc1 : Int) - (nd1 : Int) := by omega
    have kk0 := (P1.on Bv)
    have kc0_0 := kk0.cell 0
    have kc0_1 := kk0.cell 1
    have kc0_2 := kk0.cell 2
    have kc0_3 := kk0.cell 3
    simp only [List.getElem?_toArray, List.getElem?_cons_succ, List.getElem?_cons_zero] at kc0_0 kc0_1 kc0_2 kc0_3
    have kz0 := kk0.lt
    go_wp2_with fail
    replace B0 := Below.drew B0
    replace Bv := Below.drew Bv
    go_region_held3 (fun w' => (∀ b o, b < w1.heap.size → w'.cell? ⟨b, o, none⟩ = w1.cell? ⟨b, o, none⟩) ∧ Below w1.heap.size w1 w') (first | exact sk (Below.refl _ _).drew | (go_split_ands; first | exact sk (below_app ‹_› hbw2 (Below.size ‹_›)) | exact sk (below_app ‹_› hbw3 (Below.size ‹_›)) | exact sk (below_app ‹_› hbw4 (Below.size ‹_›)))) (first | (go_at_call 41; with_reducible refine (toFeatS_any A0 n0 cp0 xs0 _ (r0.on B0) hn0).mono ?_; rintro e w2 ⟨rfl, ow2, hbw2⟩; simp only [hs_drew] at ow2; have zw2 := hbw2.size; rw [hs_drew] at zw2; replace B0 := below_on hbw2 B0; replace Bv := below_on hbw2 Bv; have Bw2 : Below w2.heap.size w2 w2 := Below.refl _ _) | (go_at_call 17; with_reducible refine (toEnv_any _ _ _ _ _ _ _ _ _ _ _ _ la1 lb1 lc1 ld1 _ (ra1.on B0) (rb1.on B0) (rc1.on B0) (rd1.on B0) hna1 hnb1 hnc1 hnd1).mono ?_; rintro e w3 ⟨Aw3, Bw3_, Cw3, Dw3, rfl, raw3, rbw3, rcw3, rdw3, hbw3⟩; have zw3 := hbw3.size; replace B0 := below_on hbw3 B0; replace Bv := below_on hbw3 Bv; replace Bw2 := below_on hbw3 Bw2; have Bw3 : Below w3.heap.size w3 w3 := Below.refl _ _) | (go_at_call 46; with_reducible refine (sOutside_any _ _ _ _ _ _ _ _ _ _ _ _ _ _ _  xs0 la1 lb1 lc1 ld1 _ ((RdL.of_own r0.len ow2).on Bw2) (raw3.on Bw3) (rbw3.on Bw3) (rcw3.on Bw3) (rdw3.on Bw3) hn0 hna1 hnb1 hnc1 hnd1).mono ?_; rintro e w4 ⟨rfl, hbw4⟩; have zw4 := hbw4.size; replace B0 := below_on hbw4 B0; replace Bv := below_on hbw4 Bv; replace Bw2 := below_on hbw4 Bw2; replace Bw3 := below_on hbw4 Bw3))
    clear kk0 kz0 kc0_0 kc0_1 kc0_2 kc0_3
    go_split_ands
    clear Bw2
    clear Bw3
    go_wp2_with fail
    with_reducible refine (toFeatS_any A0 n0 cp0 xs0 _ (r0.on B0) hn0).mono ?_
    rintro e w5 ⟨rfl, ow5, hbw5⟩
    have zw5 := hbw5.size
    replace B0 := below_on hbw5 B0
    replace Bv := below_on hbw5 Bv
    have Bw5 : Below w5.heap.size w5 w5 := Below.refl _ _
    have kk0 := (P1.on Bv)
    have kc0_0 := kk0.cell 0
    have kc0_1 := kk0.cell 1
    have kc0_2 := kk0.cell 2
    have kc0_3 := kk0.cell 3
    simp only [List.getElem?_toArray, List.getElem?_cons_succ, List.getElem?_cons_zero] at kc0_0 kc0_1 kc0_2 kc0_3
    have kz0 := kk0.lt
    go_wp2_with fail
    clear kk0 kz0 kc0_0 kc0_1 kc0_2 kc0_3
    with_reducible refine (toEnv_any _ _ _ _ _ _ _ _ _ _ _ _ la1 lb1 lc1 ld1 _ (ra1.on B0) (rb1.on B0) (rc1.on B0) (rd1.on B0) hna1 hnb1 hnc1 hnd1).mono ?_
    rintro e w6 ⟨Aw6, Bw6_, Cw6, Dw6, rfl, raw6, rbw6, rcw6, rdw6, hbw6⟩
    have zw6 := hbw6.size
    replace B0 := below_on hbw6 B0
    replace Bv := below_on hbw6 Bv
    replace Bw5 := below_on hbw6 Bw5
    have Bw6 : Below w6.heap.size w6 w6 := Below.refl _ _
    go_wp2_with fail
    generalize hW : w6.alloc (.cells #[.slice Aw6 na1 na1, .slice Bw6_ nb1 nb1, .slice Cw6 nc1 nc1, .slice Dw6 nd1 nd1] 27) = w7
    have hbw7 : Below w6.heap.size w6 w7 := by rw [← hW]; exact (Below.refl _ _).alloc (Nat.le_refl _) _
    have Jw7 : Blk w7 w6.heap.size 27 #[.slice Aw6 na1 na1, .slice Bw6_ nb1 nb1, .slice Cw6 nc1 nc1, .slice Dw6 nd1 nd1] := by rw [← hW]; exact Blk.new _ _ _
    clear hW
    have zw7 := hbw7.size
    replace B0 := below_on hbw7 B0
    replace Bv := below_on hbw7 Bv
    replace Bw5 := below_on hbw7 Bw5
    replace Bw6 := below_on hbw7 Bw6
    have Bw7 : Below w7.heap.size w7 w7 := Below.refl _ _
    have kk0 := (Jw7.on Bw7)
    have kc0_0 := kk0.cell 0
    have kc0_1 := kk0.cell 1
    have kc0_2 := kk0.cell 2
    have kc0_3 := kk0.cell 3
    simp only [List.getElem?_toArray, List.getElem?_cons_succ, List.getElem?_cons_zero] at kc0_0 kc0_1 kc0_2 kc0_3
    have kz0 := kk0.lt
    go_wp2_with fail
    clear kk0 kz0 kc0_0 kc0_1 kc0_2 kc0_3
    with_reducible refine (iOutside_any _ _ _ _ _ _ _ _ _ _ _ _ _ _ _  xs0 la1 lb1 lc1 ld1 _ ((RdL.of_own r0.len ow5).on Bw5) (raw6.on Bw6) (rbw6.on Bw6) (rcw6.on Bw6) (rdw6.on Bw6) hn0 hna1 hnb1 hnc1 hnd1).mono ?_
    rintro e w8 ⟨rfl, hbw8⟩
    have zw8 := hbw8.size
    replace B0 := below_on hbw8 B0
    replace Bv := below_on hbw8 Bv
    replace Bw5 := below_on hbw8 Bw5
    replace Bw6 := below_on hbw8 Bw6
    replace Bw7 := below_on hbw8 Bw7
    go_wp2_with fail
    with_reducible refine (toFeatS_any A0 n0 cp0 xs0 _ (r0.on B0) hn0).mono ?_
    rintro e w9 ⟨rfl, ow9, hbw9⟩
    have zw9 := hbw9.size
    replace B0 := below_on hbw9 B0
    replace Bv := below_on hbw9 Bv
    replace Bw5 := below_on hbw9 Bw5
    replace Bw6 := below_on hbw9 Bw6
    replace Bw7 := below_on hbw9 Bw7
    have Bw9 : Below w9.heap.size w9 w9 := Below.refl _ _
    go_wp2_with fail
    with_reducible refine (eqFeatS_yes _ _ _ _ _ _ _ _ ((RdL.of_own r0.len ow5).on Bw5) ((RdL.of_own r0.len ow9).on Bw9) hn0).mono ?_
    rintro e w10 ⟨rfl, hbw10⟩
    have zw10 := hbw10.size
    replace B0 := below_on hbw10 B0
    replace Bv := below_on hbw10 Bv
    replace Bw5 := below_on hbw10 Bw5
    replace Bw6 := below_on hbw10 Bw6
    replace Bw7 := below_on hbw10 Bw7
    replace Bw9 := below_on hbw10 Bw9
    have kk0 := (P1.on Bv)
    have kc0_0 := kk0.cell 0
    have kc0_1 := kk0.cell 1
    have kc0_2 := kk0.cell 2
    have kc0_3 := kk0.cell 3
    simp only [List.getElem?_toArray, List.getElem?_cons_succ, List.getElem?_cons_zero] at kc0_0 kc0_1 kc0_2 kc0_3
    have kz0 := kk0.lt
    have kk1 := (Jw7.on Bw7)
    have kc1_0 := kk1.cell 0
    have kc1_1 := kk1.cell 1
    have kc1_2 := kk1.cell 2
    have kc1_3 := kk1.cell 3
    simp only [List.getElem?_toArray, List.getElem?_cons_succ, List.getElem?_cons_zero] at kc1_0 kc1_1 kc1_2 kc1_3
    have kz1 := kk1.lt
    go_wp2_with fail
    replace B0 := Below.drew B0
    replace Bv := Below.drew Bv
    replace Bw5 := Below.drew Bw5
    replace Bw6 := Below.drew Bw6
    replace Bw7 := Below.drew Bw7
    replace Bw9 := Below.drew Bw9
    go_region_held3 (fun w' => (∀ b o, b < w10.heap.size → w'.cell? ⟨b, o, none⟩ = w10.cell? ⟨b, o, none⟩) ∧ Below w10.heap.size w10 w') (first | exact sk (Below.refl _ _).drew | (go_split_ands; first | exact sk (below_app ‹_› hbw11 (Below.size ‹_›)) | exact sk (below_app ‹_› hbw12 (Below.size ‹_›)))) (first | (go_at_call 17; with_reducible refine (toEnv_any _ _ _ _ _ _ _ _ _ _ _ _ la1 lb1 lc1 ld1 _ (ra1.on B0) (rb1.on B0) (rc1.on B0) (rd1.on B0) hna1 hnb1 hnc1 hnd1).mono ?_; rintro e w11 ⟨Aw11, Bw11_, Cw11, Dw11, rfl, raw11, rbw11, rcw11, rdw11, hbw11⟩; have zw11 := hbw11.size; rw [hs_drew] at zw11; replace B0 := below_on hbw11 B0; replace Bv := below_on hbw11 Bv; replace Bw5 := below_on hbw11 Bw5; replace Bw6 := below_on hbw11 Bw6; replace Bw7 := below_on hbw11 Bw7; replace Bw9 := below_on hbw11 Bw9; have Bw11 : Below w11.heap.size w11 w11 := Below.refl _ _) | (go_at_call 19; with_reducible refine (eqEnv_yes _ _ _ _ _ _ _ _ _ _ _ _ _ _ _ _ _ _ _ _ _ _ _ _  la1 lb1 lc1 ld1 _ (raw6.on Bw6) (rbw6.on Bw6) (rcw6.on Bw6) (rdw6.on Bw6) (raw11.on Bw11) (rbw11.on Bw11) (rcw11.on Bw11) (rdw11.on Bw11) hna1 hnb1 hnc1 hnd1).mono ?_; rintro e w12 ⟨rfl, hbw12⟩; have zw12 := hbw12.size; replace B0 := below_on hbw12 B0; replace Bv := below_on hbw12 Bv; replace Bw5 := below_on hbw12 Bw5; replace Bw6 := below_on hbw12 Bw6; replace Bw7 := below_on hbw12 Bw7; replace Bw9 := below_on hbw12 Bw9; replace Bw11 := below_on hbw12 Bw11))
    clear kk0 kz0 kc0_0 kc0_1 kc0_2 kc0_3 kk1 kz1 kc1_0 kc1_1 kc1_2 kc1_3
    go_split_ands
    go_wp2
    go_ret
    exact ⟨rfl, B0⟩
  · by_cases hs0 : n0 ≤ 1048576
    · go_enter Try.func10, Try.ntmps10
      go_wp2_with fail
      have B0 : Below w.heap.size w (w.alloc (.cells #[.slice A1 na1 ca1, .slice B1 nb1 cb1, .slice C1 nc1 cc1, .slice D1 nd1 cd1] 24)) := (by repeat (first | exact Below.refl _ _ | assumption | refine Below.drew ?_ | refine below_drewN ?_ _ | refine Below.alloc ?_ (by first | omega | (simp <;> omega)) _ | refine Below.setCell ?_ (by first | omega | (simp <;> omega)) _))
      have P1 : Blk (w.alloc (.cells #[.slice A1 na1 ca1, .slice B1 nb1 cb1, .slice C1 nc1 cc1, .slice D1 nd1 cd1] 24)) (w.heap.size) 24 #[.slice A1 na1 ca1, .slice B1 nb1 cb1, .slice C1 nc1 cc1, .slice D1 nd1 cd1] := by have hk := Blk.new w 24 #[.slice A1 na1 ca1, .slice B1 nb1 cb1, .slice C1 nc1 cc1, .slice D1 nd1 cd1]; simpa using hk
      generalize (w.alloc (.cells #[.slice A1 na1 ca1, .slice B1 nb1 cb1, .slice C1 nc1 cc1, .slice D1 nd1 cd1] 24)) = v at *
      have Bv : Below v.heap.size v v := Below.refl _ _
      have zv := B0.size
      with_reducible refine (szFeatS_yes _ _ _ _ _ (by omega) (by omega) (by omega) (by omega)).mono ?_
      rintro e w' ⟨rfl, rfl⟩
      have kk0 := (P1.on Bv)
      have kc0_0 := kk0.cell 0
      have kc0_1 := kk0.cell 1
      have kc0_2 := kk0.cell 2
      have kc0_3 := kk0.cell 3
      simp only [List.getElem?_toArray, List.getElem?_cons_succ, List.getElem?_cons_zero] at kc0_0 kc0_1 kc0_2 kc0_3
      have kz0 := kk0.lt
      go_wp2_with fail
      clear kk0 kz0 kc0_0 kc0_1 kc0_2 kc0_3
      with_reducible refine (szEnv_no _ _ _ _ _ _ _ _ _ _ _ _ _ _ ma1 mb1 mc1 md1 (by omega) (by omega) (by omega)).mono ?_
      rintro e w1 ⟨rfl, hbw1⟩
      have zw1 := hbw1.size
      replace B0 := below_on hbw1 B0
      replace Bv := below_on hbw1 Bv
      go_wp2
      go_ret
      exact ⟨rfl, B0⟩
    · go_enter Try.func10, Try.ntmps10
      go_wp2_with fail
      have B0 : Below w.heap.size w (w.alloc (.cells #[.slice A1 na1 ca1, .slice B1 nb1 cb1, .slice C1 nc1 cc1, .slice D1 nd1 cd1] 24)) := (by repeat (first | exact Below.refl _ _ | assumption | refine Below.drew ?_ | refine below_drewN ?_ _ | refine Below.alloc ?_ (by first | omega | (simp <;> omega)) _ | refine Below.setCell ?_ (by first | omega | (simp <;> omega)) _))
      have P1 : Blk (w.alloc (.cells #[.slice A1 na1 ca1, .slice B1 nb1 cb1, .slice C1 nc1 cc1, .slice D1 nd1 cd1] 24)) (w.heap.size) 24 #[.slice A1 na1 ca1, .slice B1 nb1 cb1, .slice C1 nc1 cc1, .slice D1 nd1 cd1] := by have hk := Blk.new w 24 #[.slice A1 na1 ca1, .slice B1 nb1 cb1, .slice C1 nc1 cc1, .slice D1 nd1 cd1]; simpa using hk
      generalize (w.alloc (.cells #[.slice A1 na1 ca1, .slice B1 nb1 cb1, .slice C1 nc1 cc1, .slice D1 nd1 cd1] 24)) = v at *
      have Bv : Below v.heap.size v v := Below.refl _ _
      have zv := B0.size
      with_reducible refine (szFeatS_no _ _ _ _ _ (by omega) (by omega) (by omega) (by omega)).mono ?_
      rintro e w' ⟨rfl, rfl⟩
      go_wp2
      go_ret
      exact ⟨rfl, B0⟩

/-! ### From the walk to the statement -/
set_option maxRecDepth 100000 in
theorem lifted (os : Os) (started : os.Started) (H : Type) (enc : TypeId × Value → H) :
    ReturnsInHanded {} Try.checked os 10 .any (Rows.fnExactOutsideOfSpec.pre6 enc Try.prog Try.f10 Rows.fnExactOutsideOfRow.domain false) (Rows.fnExactOutsideOfSpec.post enc Try.prog Try.f10 false true false false) := by
  refine returnsInHanded_of_change (C := Try.checked) Try.own started (by kernel_rfl) Try.func10
    (ChangeSpec.witness6 (enc := enc) (C := Try.checked) false ⟨#[], #[.slice none 0 0, .agg #[.slice none 0 0, .slice none 0 0, .slice none 0 0, .slice none 0 0]], []⟩ 8 (by kernel_rfl) (by kernel_rfl) (by kernel_rfl) (by kernel_rfl)) ?_
  intro W base args ds gs before hval0 hW hcnd _
  have hval : ∀ (j : Nat) t v, Try.f10.params[j]? = some t → args[j]? = some v → Value.okWide Try.prog W .any base t v := hval0
  have hW' := hW
  obtain ⟨p, q, hA0, hV, rfl, hfz, hnd⟩ := hW
  have hA : DataW.TrodAll enc Try.prog W 0 (fun _ => true) true Try.f10.params.toList args.toList ds p := hA0
  rw [Try.params10] at hA hval
  obtain ⟨v0, vs0, d0, ds0, p0, q0, hargs, rfl, rfl, h0, tr0⟩ := trodAll_cons hA
  obtain ⟨v1, vs1, d1, ds1, p1, q1, rfl, rfl, rfl, h1, tr1⟩ := trodAll_cons tr0
  obtain ⟨rfl, rfl, rfl⟩ := trodAll_nil tr1
  obtain rfl : args = #[v0, v1] := by cases args; simp_all
  obtain ⟨rfl, rfl⟩ := trodVars_none hV
  have k0 := h0
  have lt0 : ∀ x ∈ p0, x.block < W.heap.size := by obtain ⟨m, hm⟩ := k0; exact DataW.trod_lt m _ _ _ hm
  obtain ⟨A0, n0, cp0, xs0, rfl, r0, g0⟩ := opFeats (hval 0 61 v0 rfl rfl) h0
  have k1 := h1
  have lt1 : ∀ x ∈ p1, x.block < W.heap.size := by obtain ⟨m, hm⟩ := k1; exact DataW.trod_lt m _ _ _ hm
  obtain ⟨A1, na1, ca1, la1, B1, nb1, cb1, lb1, C1, nc1, cc1, lc1, D1, nd1, cd1, ld1, rfl, ra1, rb1, rc1, rd1, ga1, gb1, gc1, gd1⟩ := opEnv (hval 1 24 v1 rfl rfl) h1
  clear hA0 hval0
  refine (walk A0 n0 cp0 xs0 A1 B1 C1 D1 na1 ca1 nb1 cb1 nc1 cc1 nd1 cd1 la1 lb1 lc1 ld1 W r0 g0 ra1 rb1 rc1 rd1 ga1 gb1 gc1 gd1).mono fun e W' ⟨he, bel⟩ => ?_
  subst he
  exact ⟨_, rfl, _, _, _, [], _, [], hW', trodAll_mk1 (shut_bool Try.underlying4 _), (trodAll_cons_mk (Below.trod Try.laidOut (by kernel_rfl) (of_decide_eq_true (by kernel_rfl)) k0 bel lt0) (trodAll_cons_mk (Below.trod Try.laidOut (by kernel_rfl) (of_decide_eq_true (by kernel_rfl)) k1 bel lt1) trodAll_mk0)), rfl, bel.frame _, fun h => by cases h⟩

theorem over : Rows.fnExactOutsideOfRow.holds Try.pinned (OpenSpec.ofChange Rows.fnExactOutsideOfSpec) :=
  OpenClaim.holds_of_wide 10 Try.f10 rfl rfl rfl rfl rfl rfl rfl ⟨rfl, rfl, rfl, rfl, rfl⟩ rfl rfl rfl rfl rfl (by kernel_rfl) Try.func10 (by kernel_rfl)
    (of_decide_eq_true (by kernel_rfl)) (by unfold Func.isWrapper; first | (rw [if_pos (by decide +kernel)]; kernel_rfl) | (rw [if_neg (by decide +kernel)]; exact ⟨rfl, rfl⟩))
    (fun os started H enc _ => lifted os started H enc)

theorem proved : Rows.FnExactOutsideOfSaid := over
end fnExactOutsideOf
end Go.Proofs.Ytoaeclnhhciimaa
