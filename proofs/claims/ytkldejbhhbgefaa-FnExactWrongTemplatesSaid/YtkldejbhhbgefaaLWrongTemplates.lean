/- The law of WrongTemplates returns true for every input: the program's WrongTemplates and the reference's return the same. No condition: every argument that can be read. -/
import Derived.Test.YtkldejbhhbgefaaTm
import Derived.Test.YtkldejbhhbgefaaWt
import Derived.Test.YtkldejbhhbgefaaGn
import Derived.Test.YtkldejbhhbgefaaAr
import Derived.ProofKit
import Derived.Deep.RegionHeld3
import Derived.ChangeOld
namespace Go.Proofs.Ytkldejbhhbgefaa
open Go.ChangeShapes Go.WideShapes Go.ChangeAt Go.RowKit
namespace fnExactWrongTemplates
set_option linter.unusedVariables false
theorem walk (z0 : Int) (A0 : Option Addr) (n0 cp0 : Nat) (xs0 : List TV) (a1 : Int) (w : World) (r0 : TL w w.heap.size A0 n0 cp0 xs0) (g0 : ∀ x ∈ xs0, (∀ q ∈ x.2, ok3 q) ∧ x.1.size ≤ maxLen) (gz0 : I64 z0) (g1 : I64 a1) :
    Calls Try.prog 3 #[.agg #[.int .i64 z0, .slice A0 n0 cp0], .int .i64 a1] w fun e w' => e = .returned (.bool true) ∧ Below w.heap.size w w' := by
  have m0 : n0 ≤ 9223372036854775807 := Nat.le_trans r0.cap r0.capm
  by_cases hbig : totT xs0 ≤ 1048576
  · have htotT_xs0 : totT xs0 ≤ 1048576 := by omega
    go_enter Try.func3, Try.ntmps3
    go_wp2_with fail
    have B0 : Below w.heap.size w (w.alloc (.cells #[.int .i64 z0, .slice A0 n0 cp0] 24)) := (by repeat (first | exact Below.refl _ _ | assumption | refine Below.drew ?_ | refine below_drewN ?_ _ | refine Below.alloc ?_ (by first | omega | (simp <;> omega)) _ | refine Below.setCell ?_ (by first | omega | (simp <;> omega)) _))
    have P0 : Blk (w.alloc (.cells #[.int .i64 z0, .slice A0 n0 cp0] 24)) (w.heap.size) 24 #[.int .i64 z0, .slice A0 n0 cp0] := by have hk := Blk.new w 24 #[.int .i64 z0, .slice A0 n0 cp0]; simpa using hk
    generalize (w.alloc (.cells #[.int .i64 z0, .slice A0 n0 cp0] 24)) = v at *
    have Bv : Below v.heap.size v v := Below.refl _ _
    have zv := B0.size
    with_reducible refine (szStore_yes z0 _ _ _ xs0 _ _ (r0.on B0) (fun x hx => (g0 x hx).2) (by omega) (by omega) (by omega)).mono ?_
    rintro e w1 ⟨rfl, hbw1⟩
    have zw1 := hbw1.size
    replace B0 := below_on hbw1 B0
    replace Bv := below_on hbw1 Bv
    have hzl : (0 : Int) ≤ 1048576 - (totT xs0 : Int) := by omega
    have kk0 := (P0.on Bv)
    have kc0_0 := kk0.cell 0
    have kc0_1 := kk0.cell 1
    simp only [List.getElem?_toArray, List.getElem?_cons_succ, List.getElem?_cons_zero] at kc0_0 kc0_1
    have kz0 := kk0.lt
    go_wp2_with fail
    clear kk0 kz0 kc0_0 kc0_1
    with_reducible refine (toStore_any z0 A0 n0 cp0 xs0 _ (r0.on B0) htotT_xs0).mono ?_
    rintro e w2 ⟨qw2, sw2, rfl, ow2, lw2, uw2, dw2, hbw2⟩
    have zw2 := hbw2.size
    replace B0 := below_on hbw2 B0
    replace Bv := below_on hbw2 Bv
    have Bw2 : Below w2.heap.size w2 w2 := Below.refl _ _
    go_wp2_with fail
    with_reducible refine (sWrong_any z0 a1 _ _ _ xs0 _ ((tl_own ow2 lw2 r0.len uw2).on Bw2) htotT_xs0).mono ?_
    rintro e w3 ⟨Aw3, nw3, cw3, rfl, ow3, lw3, pw3, hbw3⟩
    have zw3 := hbw3.size
    replace B0 := below_on hbw3 B0
    replace Bv := below_on hbw3 Bv
    replace Bw2 := below_on hbw3 Bw2
    have Bw3 : Below w3.heap.size w3 w3 := Below.refl _ _
    clear Bw2
    have kk0 := (P0.on Bv)
    have kc0_0 := kk0.cell 0
    have kc0_1 := kk0.cell 1
    simp only [List.getElem?_toArray, List.getElem?_cons_succ, List.getElem?_cons_zero] at kc0_0 kc0_1
    have kz0 := kk0.lt
    go_wp2_with fail
    clear kk0 kz0 kc0_0 kc0_1
    with_reducible refine (toStore_any z0 A0 n0 cp0 xs0 _ (r0.on B0) htotT_xs0).mono ?_
    rintro e w4 ⟨qw4, sw4, rfl, ow4, lw4, uw4, dw4, hbw4⟩
    have zw4 := hbw4.size
    replace B0 := below_on hbw4 B0
    replace Bv := below_on hbw4 Bv
    replace Bw3 := below_on hbw4 Bw3
    have Bw4 : Below w4.heap.size w4 w4 := Below.refl _ _
    go_wp2_with fail
    generalize hW : w4.alloc (.cells #[.int .i64 z0, .slice (some ⟨qw4, 0, none⟩) n0 n0] 31) = w5
    have hbw5 : Below w4.heap.size w4 w5 := by rw [← hW]; exact (Below.refl _ _).alloc (Nat.le_refl _) _
    have Jw5 : Blk w5 w4.heap.size 31 #[.int .i64 z0, .slice (some ⟨qw4, 0, none⟩) n0 n0] := by rw [← hW]; exact Blk.new _ _ _
    clear hW
    have zw5 := hbw5.size
    replace B0 := below_on hbw5 B0
    replace Bv := below_on hbw5 Bv
    replace Bw3 := below_on hbw5 Bw3
    replace Bw4 := below_on hbw5 Bw4
    have Bw5 : Below w5.heap.size w5 w5 := Below.refl _ _
    have kk0 := (Jw5.on Bw5)
    have kc0_0 := kk0.cell 0
    have kc0_1 := kk0.cell 1
    simp only [List.getElem?_toArray, List.getElem?_cons_succ, List.getElem?_cons_zero] at kc0_0 kc0_1
    have kz0 := kk0.lt
    go_wp2_with fail
    clear kk0 kz0 kc0_0 kc0_1
    with_reducible refine (iWrong_any z0 a1 _ _ _ xs0 _ ((tl_own ow4 lw4 r0.len uw4).on Bw4) htotT_xs0).mono ?_
    rintro e w6 ⟨Aw6, nw6, cw6, rfl, ow6, lw6, pw6, hbw6⟩
    have zw6 := hbw6.size
    replace B0 := below_on hbw6 B0
    replace Bv := below_on hbw6 Bv
    replace Bw3 := below_on hbw6 Bw3
    replace Bw4 := below_on hbw6 Bw4
    replace Bw5 := below_on hbw6 Bw5
    have Bw6 : Below w6.heap.size w6 w6 := Below.refl _ _
    go_wp2_with fail
    with_reducible refine (eqInt64S_yes _ _ _ _ _ _ _ _ ((RdL.of_own lw6 ow6).on Bw6) ((RdL.of_own lw3 ow3).on Bw3) pw6).mono ?_
    rintro e w7 ⟨rfl, hbw7⟩
    have zw7 := hbw7.size
    replace B0 := below_on hbw7 B0
    replace Bv := below_on hbw7 Bv
    replace Bw3 := below_on hbw7 Bw3
    replace Bw4 := below_on hbw7 Bw4
    replace Bw5 := below_on hbw7 Bw5
    replace Bw6 := below_on hbw7 Bw6
    have kk0 := (P0.on Bv)
    have kc0_0 := kk0.cell 0
    have kc0_1 := kk0.cell 1
    simp only [List.getElem?_toArray, List.getElem?_cons_succ, List.getElem?_cons_zero] at kc0_0 kc0_1
    have kz0 := kk0.lt
    have kk1 := (Jw5.on Bw5)
    have kc1_0 := kk1.cell 0
    have kc1_1 := kk1.cell 1
    simp only [List.getElem?_toArray, List.getElem?_cons_succ, List.getElem?_cons_zero] at kc1_0 kc1_1
    have kz1 := kk1.lt
    go_wp2_with fail
    replace B0 := Below.drew B0
    replace Bv := Below.drew Bv
    replace Bw3 := Below.drew Bw3
    replace Bw4 := Below.drew Bw4
    replace Bw5 := Below.drew Bw5
    replace Bw6 := Below.drew Bw6
    go_region_held3 (fun w' => (∀ b o, b < w7.heap.size → w'.cell? ⟨b, o, none⟩ = w7.cell? ⟨b, o, none⟩) ∧ Below w7.heap.size w7 w') (first | exact sk (Below.refl _ _).drew | (go_split_ands; first | exact sk (below_app ‹_› hbw8 (Below.size ‹_›)) | exact sk (below_app ‹_› hbw9 (Below.size ‹_›)))) (first | (go_at_call 9; with_reducible refine (toStore_any z0 A0 n0 cp0 xs0 _ (r0.on B0) htotT_xs0).mono ?_; rintro e w8 ⟨qw8, sw8, rfl, ow8, lw8, uw8, dw8, hbw8⟩; have zw8 := hbw8.size; rw [hs_drew] at zw8; replace B0 := below_on hbw8 B0; replace Bv := below_on hbw8 Bv; replace Bw3 := below_on hbw8 Bw3; replace Bw4 := below_on hbw8 Bw4; replace Bw5 := below_on hbw8 Bw5; replace Bw6 := below_on hbw8 Bw6; have Bw8 : Below w8.heap.size w8 w8 := Below.refl _ _) | (go_at_call 12; with_reducible refine (eqStore_yes z0 _ _ _ _ _ _ xs0 _ ((tl_own ow4 lw4 r0.len uw4).on Bw4) ((tl_own ow8 lw8 r0.len uw8).on Bw8) htotT_xs0).mono ?_; rintro e w9 ⟨rfl, hbw9⟩; have zw9 := hbw9.size; replace B0 := below_on hbw9 B0; replace Bv := below_on hbw9 Bv; replace Bw3 := below_on hbw9 Bw3; replace Bw4 := below_on hbw9 Bw4; replace Bw5 := below_on hbw9 Bw5; replace Bw6 := below_on hbw9 Bw6; replace Bw8 := below_on hbw9 Bw8))
    clear kk0 kz0 kc0_0 kc0_1 kk1 kz1 kc1_0 kc1_1
    go_split_ands
    have hinw10 := uw4.top (by rw [lw4, r0.len]; exact Nat.le_refl _)
    have hAw10 : ∀ a : Addr, (some ⟨qw4, 0, none⟩ : Option Addr) = some a → w3.heap.size ≤ a.block ∧ a.block < w4.heap.size := fun a ha => (ow4).lt a.block (by rw [ha]; rfl)
    have hBw10 : w3.heap.size ≤ w9.heap.size := by omega
    have htw10 : w4.heap.size ≤ w9.heap.size := by omega
    have kk0 := (Jw5.on Bw5)
    have kc0_0 := kk0.cell 0
    have kc0_1 := kk0.cell 1
    simp only [List.getElem?_toArray, List.getElem?_cons_succ, List.getElem?_cons_zero] at kc0_0 kc0_1
    have kz0 := kk0.lt
    go_wp2_with fail
    clear kk0 kz0 kc0_0 kc0_1
    with_reducible refine (markStore_own z0 _ _ _ _ _ w4.heap.size xs0 _ _ _ (own_below ow4 Bw4) lw4 r0.len (uw4.on Bw4) dw4 hinw10 hAw10 hBw10 htw10 htotT_xs0 (by omega) (by omega)).mono ?_
    rintro e w10 ⟨hsw10, rfl, hcw10, ow10, lw10, uw10, mw10⟩
    have zw10 := hcw10.1.size
    clear hinw10 hAw10 hBw10 htw10
    obtain ⟨kaw10, kbw10⟩ := kAt_bd (k := 1) (r := n0) htotT_xs0 (by rw [r0.len]; exact Nat.le_refl _) (by omega) (by omega)
    replace B0 := B0.trans (hcw10.1.mono (by omega))
    replace Bv := Bv.trans (hcw10.1.mono (by omega))
    replace Bw3 := Bw3.trans (hcw10.1.mono (by omega))
    have ow10G := own_chg (own_below ow6 Bw6) hcw10 (fun q hq => by have := (ow6).lt q hq; have := (ow6).lt q hq; omega)
    clear Bw4
    clear Bw5
    clear Bw6
    clear Bw8
    have Bw10 : Below w10.heap.size w10 w10 := Below.refl _ _
    go_wp2_with fail
    with_reducible refine (eqInt64S_yes _ _ _ _ _ _ _ _ ((RdL.of_own lw6 ow10G).on Bw10) ((RdL.of_own lw3 ow3).on Bw3) pw6).mono ?_
    rintro e w11 ⟨rfl, hbw11⟩
    have zw11 := hbw11.size
    replace B0 := below_on hbw11 B0
    replace Bv := below_on hbw11 Bv
    replace Bw3 := below_on hbw11 Bw3
    replace Bw10 := below_on hbw11 Bw10
    go_wp2_with fail
    with_reducible refine (markInt64S_any _ _ _ _ _ _ _ (own_below ow10G Bw10) pw6 (by omega) (by omega)).mono ?_
    rintro e w12 ⟨rfl, ow12, hgw12⟩
    have zw12 := hgw12.size
    replace B0 := B0.grown hgw12 B0.size (fun q hq => by have := (ow10G).lt q hq; have := (ow6).lt q hq; omega)
    replace Bv := Bv.grown hgw12 Bv.size (fun q hq => by have := (ow10G).lt q hq; have := (ow6).lt q hq; omega)
    replace Bw3 := Bw3.grown hgw12 Bw3.size (fun q hq => by have := (ow10G).lt q hq; have := (ow6).lt q hq; omega)
    clear Bw10
    have Bw12 : Below w12.heap.size w12 w12 := Below.refl _ _
    go_wp2_with fail
    with_reducible refine (heldInt64S_any _ _ _ _ _ ((RdL.of_own (marks1_len _ _) ow12).on Bw12) pw6 (by omega) (by omega)).mono ?_
    rintro e w13 ⟨rfl, hbw13⟩
    have zw13 := hbw13.size
    replace B0 := below_on hbw13 B0
    replace Bv := below_on hbw13 Bv
    replace Bw3 := below_on hbw13 Bw3
    replace Bw12 := below_on hbw13 Bw12
    have kk0 := (P0.on Bv)
    have kc0_0 := kk0.cell 0
    have kc0_1 := kk0.cell 1
    simp only [List.getElem?_toArray, List.getElem?_cons_succ, List.getElem?_cons_zero] at kc0_0 kc0_1
    have kz0 := kk0.lt
    go_wp2_with fail
    clear kk0 kz0 kc0_0 kc0_1
    with_reducible refine (toStore_any z0 A0 n0 cp0 xs0 _ (r0.on B0) htotT_xs0).mono ?_
    rintro e w14 ⟨qw14, sw14, rfl, ow14, lw14, uw14, dw14, hbw14⟩
    have zw14 := hbw14.size
    replace B0 := below_on hbw14 B0
    replace Bv := below_on hbw14 Bv
    replace Bw3 := below_on hbw14 Bw3
    replace Bw12 := below_on hbw14 Bw12
    have Bw14 : Below w14.heap.size w14 w14 := Below.refl _ _
    go_wp2_with fail
    with_reducible refine (iWrong_any z0 a1 _ _ _ xs0 _ ((tl_own ow14 lw14 r0.len uw14).on Bw14) htotT_xs0).mono ?_
    rintro e w15 ⟨Aw15, nw15, cw15, rfl, ow15, lw15, pw15, hbw15⟩
    have zw15 := hbw15.size
    replace B0 := below_on hbw15 B0
    replace Bv := below_on hbw15 Bv
    replace Bw3 := below_on hbw15 Bw3
    replace Bw12 := below_on hbw15 Bw12
    replace Bw14 := below_on hbw15 Bw14
    have Bw15 : Below w15.heap.size w15 w15 := Below.refl _ _
    go_wp2_with fail
    with_reducible refine (eqInt64S_yes _ _ _ _ _ _ _ _ ((RdL.of_own lw15 ow15).on Bw15) ((RdL.of_own lw3 ow3).on Bw3) pw15).mono ?_
    rintro e w16 ⟨rfl, hbw16⟩
    have zw16 := hbw16.size
    replace B0 := below_on hbw16 B0
    replace Bv := below_on hbw16 Bv
    replace Bw3 := below_on hbw16 Bw3
    replace Bw12 := below_on hbw16 Bw12
    replace Bw14 := below_on hbw16 Bw14
    replace Bw15 := below_on hbw16 Bw15
    go_wp2_with fail
    with_reducible refine (heldInt64S_any _ _ _ _ _ ((RdL.of_own (marks1_len _ _) ow12).on Bw12) pw6 (by omega) (by omega)).mono ?_
    rintro e w17 ⟨rfl, hbw17⟩
    have zw17 := hbw17.size
    replace B0 := below_on hbw17 B0
    replace Bv := below_on hbw17 Bv
    replace Bw3 := below_on hbw17 Bw3
    replace Bw12 := below_on hbw17 Bw12
    replace Bw14 := below_on hbw17 Bw14
    replace Bw15 := below_on hbw17 Bw15
    go_wp2
    go_ret
    exact ⟨rfl, B0⟩
  · go_enter Try.func3, Try.ntmps3
    go_wp2_with fail
    have B0 : Below w.heap.size w (w.alloc (.cells #[.int .i64 z0, .slice A0 n0 cp0] 24)) := (by repeat (first | exact Below.refl _ _ | assumption | refine Below.drew ?_ | refine below_drewN ?_ _ | refine Below.alloc ?_ (by first | omega | (simp <;> omega)) _ | refine Below.setCell ?_ (by first | omega | (simp <;> omega)) _))
    have P0 : Blk (w.alloc (.cells #[.int .i64 z0, .slice A0 n0 cp0] 24)) (w.heap.size) 24 #[.int .i64 z0, .slice A0 n0 cp0] := by have hk := Blk.new w 24 #[.int .i64 z0, .slice A0 n0 cp0]; simpa using hk
    generalize (w.alloc (.cells #[.int .i64 z0, .slice A0 n0 cp0] 24)) = v at *
    have Bv : Below v.heap.size v v := Below.refl _ _
    have zv := B0.size
    with_reducible refine (szStore_no z0 _ _ _ xs0 _ _ (r0.on B0) (fun x hx => (g0 x hx).2) (by omega) (by omega) (by omega)).mono ?_
    rintro e w1 ⟨rfl, hbw1⟩
    have zw1 := hbw1.size
    replace B0 := below_on hbw1 B0
    replace Bv := below_on hbw1 Bv
    go_wp2
    go_ret
    exact ⟨rfl, B0⟩

/-! ### From the walk to the statement -/
set_option maxRecDepth 100000 in
theorem lifted (os : Os) (started : os.Started) (H : Type) (enc : TypeId × Value → H) :
    ReturnsInHanded {} Try.checked os 3 .any (Rows.fnExactWrongTemplatesSpec.pre6 enc Try.prog Try.f3 Rows.fnExactWrongTemplatesRow.domain false) (Rows.fnExactWrongTemplatesSpec.post enc Try.prog Try.f3 false true false false) := by
  refine returnsInHanded_of_change (C := Try.checked) Try.own started (by kernel_rfl) Try.func3
    (ChangeSpec.witness6 (enc := enc) (C := Try.checked) false ⟨#[], #[.agg #[.int .i64 0, .slice none 0 0], .int .i64 0], []⟩ 8 (by kernel_rfl) (by kernel_rfl) (by kernel_rfl) (by kernel_rfl)) ?_
  intro W base args ds gs before hval0 hW hcnd _
  have hval : ∀ (j : Nat) t v, Try.f3.params[j]? = some t → args[j]? = some v → Value.okWide Try.prog W .any base t v := hval0
  have hW' := hW
  obtain ⟨p, q, hA0, hV, rfl, hfz, hnd⟩ := hW
  have hA : DataW.TrodAll enc Try.prog W 0 (fun _ => true) true Try.f3.params.toList args.toList ds p := hA0
  rw [Try.params3] at hA hval
  obtain ⟨v0, vs0, d0, ds0, p0, q0, hargs, rfl, rfl, h0, tr0⟩ := trodAll_cons hA
  obtain ⟨v1, vs1, d1, ds1, p1, q1, rfl, rfl, rfl, h1, tr1⟩ := trodAll_cons tr0
  obtain ⟨rfl, rfl, rfl⟩ := trodAll_nil tr1
  obtain rfl : args = #[v0, v1] := by cases args; simp_all
  obtain ⟨rfl, rfl⟩ := trodVars_none hV
  have k0 := h0
  have lt0 : ∀ x ∈ p0, x.block < W.heap.size := by obtain ⟨m, hm⟩ := k0; exact DataW.trod_lt m _ _ _ hm
  obtain ⟨z0, A0, n0, cp0, xs0, rfl, r0, g0, gz0⟩ := opStore (hval 0 24 v0 rfl rfl) h0
  have k1 := h1
  have lt1 : ∀ x ∈ p1, x.block < W.heap.size := by obtain ⟨m, hm⟩ := k1; exact DataW.trod_lt m _ _ _ hm
  obtain ⟨a1, rfl, g1⟩ := opI64 (hval 1 2 v1 rfl rfl) h1
  clear hA0 hval0
  refine (walk z0 A0 n0 cp0 xs0 a1 W r0 g0 gz0 g1).mono fun e W' ⟨he, bel⟩ => ?_
  subst he
  exact ⟨_, rfl, _, _, _, [], _, [], hW', trodAll_mk1 (shut_bool Try.underlying4 _), (trodAll_cons_mk (Below.trod Try.laidOut (by kernel_rfl) (of_decide_eq_true (by kernel_rfl)) k0 bel lt0) (trodAll_cons_mk (Below.trod Try.laidOut (by kernel_rfl) (of_decide_eq_true (by kernel_rfl)) k1 bel lt1) trodAll_mk0)), rfl, bel.frame _, fun h => by cases h⟩

theorem over : Rows.fnExactWrongTemplatesRow.holds Try.pinned (OpenSpec.ofChange Rows.fnExactWrongTemplatesSpec) :=
  OpenClaim.holds_of_wide 3 Try.f3 rfl rfl rfl rfl rfl rfl rfl ⟨rfl, rfl, rfl, rfl, rfl⟩ rfl rfl rfl rfl rfl (by kernel_rfl) Try.func3 (by kernel_rfl)
    (of_decide_eq_true (by kernel_rfl)) (by unfold Func.isWrapper; first | (rw [if_pos (by decide +kernel)]; kernel_rfl) | (rw [if_neg (by decide +kernel)]; exact ⟨rfl, rfl⟩))
    (fun os started H enc _ => lifted os started H enc)

theorem proved : Rows.FnExactWrongTemplatesSaid := over
end fnExactWrongTemplates
end Go.Proofs.Ytkldejbhhbgefaa
