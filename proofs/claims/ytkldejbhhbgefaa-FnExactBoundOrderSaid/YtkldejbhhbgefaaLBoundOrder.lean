/- The law of BoundOrder returns true for every input: the program's BoundOrder and the reference's return the same. No condition: every argument that can be read. -/
import Derived.Test.YtkldejbhhbgefaaB5
import Derived.Test.YtkldejbhhbgefaaFlInt
import Derived.Test.YtkldejbhhbgefaaAr
import Derived.ProofKit
import Derived.Deep.RegionHeld3
import Derived.ChangeOld
namespace Go.Proofs.Ytkldejbhhbgefaa
open Go.ChangeShapes Go.WideShapes Go.ChangeAt Go.RowKit
namespace fnExactBoundOrder
set_option linter.unusedVariables false
theorem walk (A0 : Option Addr) (n0 cp0 : Nat) (xs0 : List T3) (A1 : Option Addr) (n1 cp1 : Nat) (xs1 : List (List T3)) (a2 : Int) (w : World) (r0 : RdL c3 3 w w.heap.size A0 n0 cp0 xs0) (g0 : ∀ x ∈ xs0, ok3 x) (r1 : NL w w.heap.size A1 n1 cp1 xs1) (g1 : ∀ x ∈ xs1, ∀ q ∈ x, ok3 q) (g2 : I64 a2) :
    Calls Try.prog 4 #[.slice A0 n0 cp0, .slice A1 n1 cp1, .int .i64 a2] w fun e w' => e = .returned (.bool true) ∧ Below w.heap.size w w' := by
  have m0 : n0 ≤ 9223372036854775807 := Nat.le_trans r0.cap r0.capm
  have m1 : n1 ≤ 9223372036854775807 := Nat.le_trans r1.cap r1.capm
  by_cases hbig : n0 + totL xs1 ≤ 1048576
  · have hn0 : n0 ≤ 1048576 := by omega
    have htotL_xs1 : totL xs1 ≤ 1048576 := by omega
    go_enter Try.func4, Try.ntmps4
    go_wp2_with fail
    have B0 : Below w.heap.size w w := Below.refl _ _
    with_reducible refine (szFeatS_yes _ _ _ _ _ (by omega) (by omega) (by omega) (by omega)).mono ?_
    rintro e w' ⟨rfl, rfl⟩
    go_wp2_with fail
    with_reducible refine (szFeatSS_yes _ _ _ xs1 _ _ (r1.on B0) (by omega) (by omega) (by omega)).mono ?_
    rintro e w1 ⟨rfl, hbw1⟩
    have zw1 := hbw1.size
    replace B0 := below_on hbw1 B0
    go_wp2_with fail
    with_reducible refine (toFeatS_any A0 n0 cp0 xs0 _ (r0.on B0) hn0).mono ?_
    rintro e w2 ⟨rfl, ow2, hbw2⟩
    have zw2 := hbw2.size
    replace B0 := below_on hbw2 B0
    have Bw2 : Below w2.heap.size w2 w2 := Below.refl _ _
    go_wp2_with fail
    with_reducible refine (toFeatSS_own A1 n1 cp1 xs1 _ (r1.on B0) htotL_xs1).mono ?_
    rintro e w3 ⟨sw3, rfl, ow3, lw3, uw3, dw3, hbw3⟩
    have zw3 := hbw3.size
    replace B0 := below_on hbw3 B0
    replace Bw2 := below_on hbw3 Bw2
    have Bw3 : Below w3.heap.size w3 w3 := Below.refl _ _
    go_wp2_with fail
    with_reducible refine (sBoundOrder_any _ _ _ _ _ _ xs0 xs1 a2 _ ((RdL.of_own r0.len ow2).on Bw2) ((nl_own ow3 lw3 r1.len uw3).on Bw3) hn0 htotL_xs1).mono ?_
    rintro e w4 ⟨Aw4, nw4, cw4, rfl, ow4, lw4, pw4, hbw4⟩
    have zw4 := hbw4.size
    replace B0 := below_on hbw4 B0
    replace Bw2 := below_on hbw4 Bw2
    replace Bw3 := below_on hbw4 Bw3
    have Bw4 : Below w4.heap.size w4 w4 := Below.refl _ _
    clear Bw2
    clear Bw3
    go_wp2_with fail
    with_reducible refine (toFeatS_any A0 n0 cp0 xs0 _ (r0.on B0) hn0).mono ?_
    rintro e w5 ⟨rfl, ow5, hbw5⟩
    have zw5 := hbw5.size
    replace B0 := below_on hbw5 B0
    replace Bw4 := below_on hbw5 Bw4
    have Bw5 : Below w5.heap.size w5 w5 := Below.refl _ _
    go_wp2_with fail
    with_reducible refine (toFeatSS_own A1 n1 cp1 xs1 _ (r1.on B0) htotL_xs1).mono ?_
    rintro e w6 ⟨sw6, rfl, ow6, lw6, uw6, dw6, hbw6⟩
    have zw6 := hbw6.size
    replace B0 := below_on hbw6 B0
    replace Bw4 := below_on hbw6 Bw4
    replace Bw5 := below_on hbw6 Bw5
    have Bw6 : Below w6.heap.size w6 w6 := Below.refl _ _
    go_wp2_with fail
    with_reducible refine (iBoundOrder_any _ _ _ _ _ _ xs0 xs1 a2 _ ((RdL.of_own r0.len ow5).on Bw5) ((nl_own ow6 lw6 r1.len uw6).on Bw6) hn0 htotL_xs1).mono ?_
    rintro e w7 ⟨Aw7, nw7, cw7, rfl, ow7, lw7, pw7, hbw7⟩
    have zw7 := hbw7.size
    replace B0 := below_on hbw7 B0
    replace Bw4 := below_on hbw7 Bw4
    replace Bw5 := below_on hbw7 Bw5
    replace Bw6 := below_on hbw7 Bw6
    have Bw7 : Below w7.heap.size w7 w7 := Below.refl _ _
    go_wp2_with fail
    with_reducible refine (eqInt64S_yes _ _ _ _ _ _ _ _ ((RdL.of_own lw7 ow7).on Bw7) ((RdL.of_own lw4 ow4).on Bw4) pw7).mono ?_
    rintro e w8 ⟨rfl, hbw8⟩
    have zw8 := hbw8.size
    replace B0 := below_on hbw8 B0
    replace Bw4 := below_on hbw8 Bw4
    replace Bw5 := below_on hbw8 Bw5
    replace Bw6 := below_on hbw8 Bw6
    replace Bw7 := below_on hbw8 Bw7
    go_wp2_with fail
    with_reducible refine (toFeatS_any A0 n0 cp0 xs0 _ (r0.on B0) hn0).mono ?_
    rintro e w9 ⟨rfl, ow9, hbw9⟩
    have zw9 := hbw9.size
    replace B0 := below_on hbw9 B0
    replace Bw4 := below_on hbw9 Bw4
    replace Bw5 := below_on hbw9 Bw5
    replace Bw6 := below_on hbw9 Bw6
    replace Bw7 := below_on hbw9 Bw7
    have Bw9 : Below w9.heap.size w9 w9 := Below.refl _ _
    go_wp2_with fail
    with_reducible refine (eqFeatS_yes _ _ _ _ _ _ _ _ ((RdL.of_own r0.len ow5).on Bw5) ((RdL.of_own r0.len ow9).on Bw9) hn0).mono ?_
    rintro e w10 ⟨rfl, hbw10⟩
    have zw10 := hbw10.size
    replace B0 := below_on hbw10 B0
    replace Bw4 := below_on hbw10 Bw4
    replace Bw5 := below_on hbw10 Bw5
    replace Bw6 := below_on hbw10 Bw6
    replace Bw7 := below_on hbw10 Bw7
    replace Bw9 := below_on hbw10 Bw9
    go_wp2_with fail
    with_reducible refine (toFeatSS_own A1 n1 cp1 xs1 _ (r1.on B0) htotL_xs1).mono ?_
    rintro e w11 ⟨sw11, rfl, ow11, lw11, uw11, dw11, hbw11⟩
    have zw11 := hbw11.size
    replace B0 := below_on hbw11 B0
    replace Bw4 := below_on hbw11 Bw4
    replace Bw5 := below_on hbw11 Bw5
    replace Bw6 := below_on hbw11 Bw6
    replace Bw7 := below_on hbw11 Bw7
    replace Bw9 := below_on hbw11 Bw9
    have Bw11 : Below w11.heap.size w11 w11 := Below.refl _ _
    go_wp2_with fail
    with_reducible refine (eqFeatSS_yes _ _ _ _ _ _ xs1 _ ((nl_own ow6 lw6 r1.len uw6).on Bw6) ((nl_own ow11 lw11 r1.len uw11).on Bw11) htotL_xs1).mono ?_
    rintro e w12 ⟨rfl, hbw12⟩
    have zw12 := hbw12.size
    replace B0 := below_on hbw12 B0
    replace Bw4 := below_on hbw12 Bw4
    replace Bw5 := below_on hbw12 Bw5
    replace Bw6 := below_on hbw12 Bw6
    replace Bw7 := below_on hbw12 Bw7
    replace Bw9 := below_on hbw12 Bw9
    replace Bw11 := below_on hbw12 Bw11
    go_wp2_with fail
    with_reducible refine (markFeatS_any _ _ _ _ _ _ _ (own_below ow5 Bw5) hn0 (by omega) (by omega)).mono ?_
    rintro e w13 ⟨rfl, ow13, hgw13⟩
    have zw13 := hgw13.size
    replace B0 := B0.grown hgw13 B0.size (fun q hq => by have := (ow5).lt q hq; have := (ow5).lt q hq; omega)
    replace Bw4 := Bw4.grown hgw13 Bw4.size (fun q hq => by have := (ow5).lt q hq; have := (ow5).lt q hq; omega)
    have ow13G := (own_below ow7 Bw7).kept hgw13 (own_ne ow7 (fun q hq => by have := (ow5).lt q hq; have := (ow5).lt q hq; omega))
    have ow13n := (own_below ow6 Bw6).kept hgw13 (own_ne ow6 (fun q hq => by have := (ow5).lt q hq; have := (ow5).lt q hq; omega))
    have uw13n := (uw6.on Bw6).kept hgw13 (fun q hq => by have := (ow5).lt q hq; have := (ow5).lt q hq; omega)
    clear Bw5
    clear Bw6
    clear Bw7
    clear Bw9
    clear Bw11
    have Bw13 : Below w13.heap.size w13 w13 := Below.refl _ _
    go_wp2_with fail
    with_reducible refine (markFeatSS_any _ _ _ _ _ w6.heap.size _ xs1 _ _ _ (own_below ow13n Bw13) lw6 r1.len (uw13n.on Bw13) dw6 (fun i h a hi ha => uw6.top' (by rw [lw6, r1.len]; exact Nat.le_refl _) i h a hi ha) (fun a ha => by cases ha; simp) (by have := (ow6).lt _ rfl; omega) htotL_xs1 (by omega) (by omega)).mono ?_
    rintro e w14 ⟨rfl, hcw14⟩
    have zw14 := hcw14.1.size
    replace B0 := B0.trans (hcw14.1.mono (by omega))
    replace Bw4 := Bw4.trans (hcw14.1.mono (by omega))
    have ow14G := own_chg (own_below ow13G Bw13) hcw14 (fun q hq => by have := (ow13G).lt q hq; have := (ow7).lt q hq; omega)
    clear Bw13
    have Bw14 : Below w14.heap.size w14 w14 := Below.refl _ _
    go_wp2_with fail
    with_reducible refine (eqInt64S_yes _ _ _ _ _ _ _ _ ((RdL.of_own lw7 ow14G).on Bw14) ((RdL.of_own lw4 ow4).on Bw4) pw7).mono ?_
    rintro e w15 ⟨rfl, hbw15⟩
    have zw15 := hbw15.size
    replace B0 := below_on hbw15 B0
    replace Bw4 := below_on hbw15 Bw4
    replace Bw14 := below_on hbw15 Bw14
    go_wp2_with fail
    with_reducible refine (markInt64S_any _ _ _ _ _ _ _ (own_below ow14G Bw14) pw7 (by omega) (by omega)).mono ?_
    rintro e w16 ⟨rfl, ow16, hgw16⟩
    have zw16 := hgw16.size
    replace B0 := B0.grown hgw16 B0.size (fun q hq => by have := (ow14G).lt q hq; have := (ow7).lt q hq; omega)
    replace Bw4 := Bw4.grown hgw16 Bw4.size (fun q hq => by have := (ow14G).lt q hq; have := (ow7).lt q hq; omega)
    clear Bw14
    have Bw16 : Below w16.heap.size w16 w16 := Below.refl _ _
    go_wp2_with fail
    with_reducible refine (heldInt64S_any _ _ _ _ _ ((RdL.of_own (marks1_len _ _) ow16).on Bw16) pw7 (by omega) (by omega)).mono ?_
    rintro e w17 ⟨rfl, hbw17⟩
    have zw17 := hbw17.size
    replace B0 := below_on hbw17 B0
    replace Bw4 := below_on hbw17 Bw4
    replace Bw16 := below_on hbw17 Bw16
    go_wp2_with fail
    with_reducible refine (toFeatS_any A0 n0 cp0 xs0 _ (r0.on B0) hn0).mono ?_
    rintro e w18 ⟨rfl, ow18, hbw18⟩
    have zw18 := hbw18.size
    replace B0 := below_on hbw18 B0
    replace Bw4 := below_on hbw18 Bw4
    replace Bw16 := below_on hbw18 Bw16
    have Bw18 : Below w18.heap.size w18 w18 := Below.refl _ _
    go_wp2_with fail
    with_reducible refine (toFeatSS_own A1 n1 cp1 xs1 _ (r1.on B0) htotL_xs1).mono ?_
    rintro e w19 ⟨sw19, rfl, ow19, lw19, uw19, dw19, hbw19⟩
    have zw19 := hbw19.size
    replace B0 := below_on hbw19 B0
    replace Bw4 := below_on hbw19 Bw4
    replace Bw16 := below_on hbw19 Bw16
    replace Bw18 := below_on hbw19 Bw18
    have Bw19 : Below w19.heap.size w19 w19 := Below.refl _ _
    go_wp2_with fail
    with_reducible refine (iBoundOrder_any _ _ _ _ _ _ xs0 xs1 a2 _ ((RdL.of_own r0.len ow18).on Bw18) ((nl_own ow19 lw19 r1.len uw19).on Bw19) hn0 htotL_xs1).mono ?_
    rintro e w20 ⟨Aw20, nw20, cw20, rfl, ow20, lw20, pw20, hbw20⟩
    have zw20 := hbw20.size
    replace B0 := below_on hbw20 B0
    replace Bw4 := below_on hbw20 Bw4
    replace Bw16 := below_on hbw20 Bw16
    replace Bw18 := below_on hbw20 Bw18
    replace Bw19 := below_on hbw20 Bw19
    have Bw20 : Below w20.heap.size w20 w20 := Below.refl _ _
    go_wp2_with fail
    with_reducible refine (eqInt64S_yes _ _ _ _ _ _ _ _ ((RdL.of_own lw20 ow20).on Bw20) ((RdL.of_own lw4 ow4).on Bw4) pw20).mono ?_
    rintro e w21 ⟨rfl, hbw21⟩
    have zw21 := hbw21.size
    replace B0 := below_on hbw21 B0
    replace Bw4 := below_on hbw21 Bw4
    replace Bw16 := below_on hbw21 Bw16
    replace Bw18 := below_on hbw21 Bw18
    replace Bw19 := below_on hbw21 Bw19
    replace Bw20 := below_on hbw21 Bw20
    go_wp2_with fail
    with_reducible refine (heldInt64S_any _ _ _ _ _ ((RdL.of_own (marks1_len _ _) ow16).on Bw16) pw7 (by omega) (by omega)).mono ?_
    rintro e w22 ⟨rfl, hbw22⟩
    have zw22 := hbw22.size
    replace B0 := below_on hbw22 B0
    replace Bw4 := below_on hbw22 Bw4
    replace Bw16 := below_on hbw22 Bw16
    replace Bw18 := below_on hbw22 Bw18
    replace Bw19 := below_on hbw22 Bw19
    replace Bw20 := below_on hbw22 Bw20
    go_wp2
    go_ret
    exact ⟨rfl, B0⟩
  · by_cases hs0 : n0 ≤ 1048576
    · go_enter Try.func4, Try.ntmps4
      go_wp2_with fail
      have B0 : Below w.heap.size w w := Below.refl _ _
      with_reducible refine (szFeatS_yes _ _ _ _ _ (by omega) (by omega) (by omega) (by omega)).mono ?_
      rintro e w' ⟨rfl, rfl⟩
      go_wp2_with fail
      with_reducible refine (szFeatSS_no _ _ _ xs1 _ _ (r1.on B0) (by omega) (by omega) (by omega)).mono ?_
      rintro e w1 ⟨rfl, hbw1⟩
      have zw1 := hbw1.size
      replace B0 := below_on hbw1 B0
      go_wp2
      go_ret
      exact ⟨rfl, B0⟩
    · go_enter Try.func4, Try.ntmps4
      go_wp2_with fail
      have B0 : Below w.heap.size w w := Below.refl _ _
      with_reducible refine (szFeatS_no _ _ _ _ _ (by omega) (by omega) (by omega) (by omega)).mono ?_
      rintro e w' ⟨rfl, rfl⟩
      go_wp2
      go_ret
      exact ⟨rfl, B0⟩

/-! ### From the walk to the statement -/
set_option maxRecDepth 100000 in
theorem lifted (os : Os) (started : os.Started) (H : Type) (enc : TypeId × Value → H) :
    ReturnsInHanded {} Try.checked os 4 .any (Rows.fnExactBoundOrderSpec.pre6 enc Try.prog Try.f4 Rows.fnExactBoundOrderRow.domain false) (Rows.fnExactBoundOrderSpec.post enc Try.prog Try.f4 false true false false) := by
  refine returnsInHanded_of_change (C := Try.checked) Try.own started (by kernel_rfl) Try.func4
    (ChangeSpec.witness6 (enc := enc) (C := Try.checked) false ⟨#[], #[.slice none 0 0, .slice none 0 0, .int .i64 0], []⟩ 8 (by kernel_rfl) (by kernel_rfl) (by kernel_rfl) (by kernel_rfl)) ?_
  intro W base args ds gs before hval0 hW hcnd _
  have hval : ∀ (j : Nat) t v, Try.f4.params[j]? = some t → args[j]? = some v → Value.okWide Try.prog W .any base t v := hval0
  have hW' := hW
  obtain ⟨p, q, hA0, hV, rfl, hfz, hnd⟩ := hW
  have hA : DataW.TrodAll enc Try.prog W 0 (fun _ => true) true Try.f4.params.toList args.toList ds p := hA0
  rw [Try.params4] at hA hval
  obtain ⟨v0, vs0, d0, ds0, p0, q0, hargs, rfl, rfl, h0, tr0⟩ := trodAll_cons hA
  obtain ⟨v1, vs1, d1, ds1, p1, q1, rfl, rfl, rfl, h1, tr1⟩ := trodAll_cons tr0
  obtain ⟨v2, vs2, d2, ds2, p2, q2, rfl, rfl, rfl, h2, tr2⟩ := trodAll_cons tr1
  obtain ⟨rfl, rfl, rfl⟩ := trodAll_nil tr2
  obtain rfl : args = #[v0, v1, v2] := by cases args; simp_all
  obtain ⟨rfl, rfl⟩ := trodVars_none hV
  have k0 := h0
  have lt0 : ∀ x ∈ p0, x.block < W.heap.size := by obtain ⟨m, hm⟩ := k0; exact DataW.trod_lt m _ _ _ hm
  obtain ⟨A0, n0, cp0, xs0, rfl, r0, g0⟩ := opFeats (hval 0 38 v0 rfl rfl) h0
  have k1 := h1
  have lt1 : ∀ x ∈ p1, x.block < W.heap.size := by obtain ⟨m, hm⟩ := k1; exact DataW.trod_lt m _ _ _ hm
  obtain ⟨A1, n1, cp1, xs1, rfl, r1, g1⟩ := opFeatSS (hval 1 39 v1 rfl rfl) h1
  have k2 := h2
  have lt2 : ∀ x ∈ p2, x.block < W.heap.size := by obtain ⟨m, hm⟩ := k2; exact DataW.trod_lt m _ _ _ hm
  obtain ⟨a2, rfl, g2⟩ := opI64 (hval 2 2 v2 rfl rfl) h2
  clear hA0 hval0
  refine (walk A0 n0 cp0 xs0 A1 n1 cp1 xs1 a2 W r0 g0 r1 g1 g2).mono fun e W' ⟨he, bel⟩ => ?_
  subst he
  exact ⟨_, rfl, _, _, _, [], _, [], hW', trodAll_mk1 (shut_bool Try.underlying4 _), (trodAll_cons_mk (Below.trod Try.laidOut (by kernel_rfl) (of_decide_eq_true (by kernel_rfl)) k0 bel lt0) (trodAll_cons_mk (Below.trod Try.laidOut (by kernel_rfl) (of_decide_eq_true (by kernel_rfl)) k1 bel lt1) (trodAll_cons_mk (Below.trod Try.laidOut (by kernel_rfl) (of_decide_eq_true (by kernel_rfl)) k2 bel lt2) trodAll_mk0))), rfl, bel.frame _, fun h => by cases h⟩

theorem over : Rows.fnExactBoundOrderRow.holds Try.pinned (OpenSpec.ofChange Rows.fnExactBoundOrderSpec) :=
  OpenClaim.holds_of_wide 4 Try.f4 rfl rfl rfl rfl rfl rfl rfl ⟨rfl, rfl, rfl, rfl, rfl⟩ rfl rfl rfl rfl rfl (by kernel_rfl) Try.func4 (by kernel_rfl)
    (of_decide_eq_true (by kernel_rfl)) (by unfold Func.isWrapper; first | (rw [if_pos (by decide +kernel)]; kernel_rfl) | (rw [if_neg (by decide +kernel)]; exact ⟨rfl, rfl⟩))
    (fun os started H enc _ => lifted os started H enc)

theorem proved : Rows.FnExactBoundOrderSaid := over
end fnExactBoundOrder
end Go.Proofs.Ytkldejbhhbgefaa
