/- The law of ElasticPath returns true for every input: the program's ElasticPath and the reference's return the same. No condition: every argument that can be read. -/
import Derived.Test.YtfbcnojnpjbghaaTi
import Derived.Test.YtfbcnojnpjbghaaFlPair
import Derived.Test.YtfbcnojnpjbghaaGn
import Derived.Test.YtfbcnojnpjbghaaAr
import Derived.ProofKit
import Derived.Deep.RegionHeld3
import Derived.ChangeOld
namespace Go.Proofs.Ytfbcnojnpjbghaa
open Go.ChangeShapes Go.WideShapes Go.ChangeAt Go.RowKit
namespace fnExactElasticPath
set_option linter.unusedVariables false
theorem walk (A0 : Option Addr) (n0 cp0 : Nat) (xs0 : List T3) (A1 : Option Addr) (n1 cp1 : Nat) (xs1 : List T3) (a2 : Int) (w : World) (r0 : RdL c3 3 w w.heap.size A0 n0 cp0 xs0) (g0 : ∀ x ∈ xs0, ok3 x) (r1 : RdL c3 3 w w.heap.size A1 n1 cp1 xs1) (g1 : ∀ x ∈ xs1, ok3 x) (g2 : I64 a2) :
    Calls Try.prog 6 #[.slice A0 n0 cp0, .slice A1 n1 cp1, .int .i64 a2] w fun e w' => e = .returned (.bool true) ∧ Below w.heap.size w w' := by
  have m0 : n0 ≤ 9223372036854775807 := Nat.le_trans r0.cap r0.capm
  have m1 : n1 ≤ 9223372036854775807 := Nat.le_trans r1.cap r1.capm
  by_cases hbig : n0 + n1 ≤ 1048576
  · have hn0 : n0 ≤ 1048576 := by omega
    have hn1 : n1 ≤ 1048576 := by omega
    go_enter Try.func6, Try.ntmps6
    go_wp2_with fail
    have B0 : Below w.heap.size w w := Below.refl _ _
    with_reducible refine (szFeatS_yes _ _ _ _ _ (by omega) (by omega) (by omega) (by omega)).mono ?_
    rintro e w' ⟨rfl, rfl⟩
    go_wp2_with fail
    with_reducible refine (szFeatS_yes _ _ _ _ _ (by omega) (by omega) (by omega) (by omega)).mono ?_
    rintro e w' ⟨rfl, rfl⟩
    go_wp2_with fail
    with_reducible refine (toFeatS_any A0 n0 cp0 xs0 _ (r0.on B0) hn0).mono ?_
    rintro e w1 ⟨rfl, ow1, hbw1⟩
    have zw1 := hbw1.size
    replace B0 := below_on hbw1 B0
    have Bw1 : Below w1.heap.size w1 w1 := Below.refl _ _
    go_wp2_with fail
    with_reducible refine (toFeatS_any A1 n1 cp1 xs1 _ (r1.on B0) hn1).mono ?_
    rintro e w2 ⟨rfl, ow2, hbw2⟩
    have zw2 := hbw2.size
    replace B0 := below_on hbw2 B0
    replace Bw1 := below_on hbw2 Bw1
    have Bw2 : Below w2.heap.size w2 w2 := Below.refl _ _
    go_wp2_with fail
    with_reducible refine (sPath_any _ _ _ _ _ _ xs0 xs1 a2 _ ((RdL.of_own r0.len ow1).on Bw1) ((RdL.of_own r1.len ow2).on Bw2) hn0 hn1).mono ?_
    rintro e w3 ⟨Aw3, nw3, cw3, rfl, ow3, lw3, pw3, hbw3⟩
    have zw3 := hbw3.size
    replace B0 := below_on hbw3 B0
    replace Bw1 := below_on hbw3 Bw1
    replace Bw2 := below_on hbw3 Bw2
    have Bw3 : Below w3.heap.size w3 w3 := Below.refl _ _
    clear Bw1
    clear Bw2
    go_wp2_with fail
    with_reducible refine (toFeatS_any A0 n0 cp0 xs0 _ (r0.on B0) hn0).mono ?_
    rintro e w4 ⟨rfl, ow4, hbw4⟩
    have zw4 := hbw4.size
    replace B0 := below_on hbw4 B0
    replace Bw3 := below_on hbw4 Bw3
    have Bw4 : Below w4.heap.size w4 w4 := Below.refl _ _
    go_wp2_with fail
    with_reducible refine (toFeatS_any A1 n1 cp1 xs1 _ (r1.on B0) hn1).mono ?_
    rintro e w5 ⟨rfl, ow5, hbw5⟩
    have zw5 := hbw5.size
    replace B0 := below_on hbw5 B0
    replace Bw3 := below_on hbw5 Bw3
    replace Bw4 := below_on hbw5 Bw4
    have Bw5 : Below w5.heap.size w5 w5 := Below.refl _ _
    go_wp2_with fail
    with_reducible refine (iPathE_any _ _ _ _ _ _ xs0 xs1 a2 _ ((RdL.of_own r0.len ow4).on Bw4) ((RdL.of_own r1.len ow5).on Bw5) hn0 hn1).mono ?_
    rintro e w6 ⟨Aw6, nw6, cw6, rfl, ow6, lw6, pw6, hbw6⟩
    have zw6 := hbw6.size
    replace B0 := below_on hbw6 B0
    replace Bw3 := below_on hbw6 Bw3
    replace Bw4 := below_on hbw6 Bw4
    replace Bw5 := below_on hbw6 Bw5
    have Bw6 : Below w6.heap.size w6 w6 := Below.refl _ _
    go_wp2_with fail
    with_reducible refine (eqPairS_yes _ _ _ _ _ _ _ _ ((RdL.of_own lw6 ow6).on Bw6) ((RdL.of_own lw3 ow3).on Bw3) pw6).mono ?_
    rintro e w7 ⟨rfl, hbw7⟩
    have zw7 := hbw7.size
    replace B0 := below_on hbw7 B0
    replace Bw3 := below_on hbw7 Bw3
    replace Bw4 := below_on hbw7 Bw4
    replace Bw5 := below_on hbw7 Bw5
    replace Bw6 := below_on hbw7 Bw6
    go_wp2_with fail
    with_reducible refine (toFeatS_any A0 n0 cp0 xs0 _ (r0.on B0) hn0).mono ?_
    rintro e w8 ⟨rfl, ow8, hbw8⟩
    have zw8 := hbw8.size
    replace B0 := below_on hbw8 B0
    replace Bw3 := below_on hbw8 Bw3
    replace Bw4 := below_on hbw8 Bw4
    replace Bw5 := below_on hbw8 Bw5
    replace Bw6 := below_on hbw8 Bw6
    have Bw8 : Below w8.heap.size w8 w8 := Below.refl _ _
    go_wp2_with fail
    with_reducible refine (eqFeatS_yes _ _ _ _ _ _ _ _ ((RdL.of_own r0.len ow4).on Bw4) ((RdL.of_own r0.len ow8).on Bw8) hn0).mono ?_
    rintro e w9 ⟨rfl, hbw9⟩
    have zw9 := hbw9.size
    replace B0 := below_on hbw9 B0
    replace Bw3 := below_on hbw9 Bw3
    replace Bw4 := below_on hbw9 Bw4
    replace Bw5 := below_on hbw9 Bw5
    replace Bw6 := below_on hbw9 Bw6
    replace Bw8 := below_on hbw9 Bw8
    go_wp2_with fail
    with_reducible refine (toFeatS_any A1 n1 cp1 xs1 _ (r1.on B0) hn1).mono ?_
    rintro e w10 ⟨rfl, ow10, hbw10⟩
    have zw10 := hbw10.size
    replace B0 := below_on hbw10 B0
    replace Bw3 := below_on hbw10 Bw3
    replace Bw4 := below_on hbw10 Bw4
    replace Bw5 := below_on hbw10 Bw5
    replace Bw6 := below_on hbw10 Bw6
    replace Bw8 := below_on hbw10 Bw8
    have Bw10 : Below w10.heap.size w10 w10 := Below.refl _ _
    go_wp2_with fail
    with_reducible refine (eqFeatS_yes _ _ _ _ _ _ _ _ ((RdL.of_own r1.len ow5).on Bw5) ((RdL.of_own r1.len ow10).on Bw10) hn1).mono ?_
    rintro e w11 ⟨rfl, hbw11⟩
    have zw11 := hbw11.size
    replace B0 := below_on hbw11 B0
    replace Bw3 := below_on hbw11 Bw3
    replace Bw4 := below_on hbw11 Bw4
    replace Bw5 := below_on hbw11 Bw5
    replace Bw6 := below_on hbw11 Bw6
    replace Bw8 := below_on hbw11 Bw8
    replace Bw10 := below_on hbw11 Bw10
    go_wp2_with fail
    with_reducible refine (markFeatS_any _ _ _ _ _ _ _ (own_below ow4 Bw4) hn0 (by omega) (by omega)).mono ?_
    rintro e w12 ⟨rfl, ow12, hgw12⟩
    have zw12 := hgw12.size
    replace B0 := B0.grown hgw12 B0.size (fun q hq => by have := (ow4).lt q hq; have := (ow4).lt q hq; omega)
    replace Bw3 := Bw3.grown hgw12 Bw3.size (fun q hq => by have := (ow4).lt q hq; have := (ow4).lt q hq; omega)
    have ow12G := (own_below ow6 Bw6).kept hgw12 (own_ne ow6 (fun q hq => by have := (ow4).lt q hq; have := (ow4).lt q hq; omega))
    have ow12x1 := (own_below ow5 Bw5).kept hgw12 (own_ne ow5 (fun q hq => by have := (ow4).lt q hq; have := (ow4).lt q hq; omega))
    clear Bw4
    clear Bw5
    clear Bw6
    clear Bw8
    clear Bw10
    have Bw12 : Below w12.heap.size w12 w12 := Below.refl _ _
    go_wp2_with fail
    with_reducible refine (markFeatS_any _ _ _ _ _ _ _ (own_below ow12x1 Bw12) hn1 (by omega) (by omega)).mono ?_
    rintro e w13 ⟨rfl, ow13, hgw13⟩
    have zw13 := hgw13.size
    replace B0 := B0.grown hgw13 B0.size (fun q hq => by have := (ow12x1).lt q hq; have := (ow5).lt q hq; omega)
    replace Bw3 := Bw3.grown hgw13 Bw3.size (fun q hq => by have := (ow12x1).lt q hq; have := (ow5).lt q hq; omega)
    have ow13G := (own_below ow12G Bw12).kept hgw13 (own_ne ow12G (fun q hq => by have := (ow12x1).lt q hq; have := (ow5).lt q hq; omega))
    clear Bw12
    have Bw13 : Below w13.heap.size w13 w13 := Below.refl _ _
    go_wp2_with fail
    with_reducible refine (eqPairS_yes _ _ _ _ _ _ _ _ ((RdL.of_own lw6 ow13G).on Bw13) ((RdL.of_own lw3 ow3).on Bw3) pw6).mono ?_
    rintro e w14 ⟨rfl, hbw14⟩
    have zw14 := hbw14.size
    replace B0 := below_on hbw14 B0
    replace Bw3 := below_on hbw14 Bw3
    replace Bw13 := below_on hbw14 Bw13
    go_wp2_with fail
    with_reducible refine (markPairS_any _ _ _ _ _ _ _ (own_below ow13G Bw13) pw6 (by omega) (by omega)).mono ?_
    rintro e w15 ⟨rfl, ow15, hgw15⟩
    have zw15 := hgw15.size
    replace B0 := B0.grown hgw15 B0.size (fun q hq => by have := (ow13G).lt q hq; have := (ow6).lt q hq; omega)
    replace Bw3 := Bw3.grown hgw15 Bw3.size (fun q hq => by have := (ow13G).lt q hq; have := (ow6).lt q hq; omega)
    clear Bw13
    have Bw15 : Below w15.heap.size w15 w15 := Below.refl _ _
    go_wp2_with fail
    with_reducible refine (heldPairS_any _ _ _ _ _ ((RdL.of_own (marks2_len _ _) ow15).on Bw15) pw6 (by omega) (by omega)).mono ?_
    rintro e w16 ⟨rfl, hbw16⟩
    have zw16 := hbw16.size
    replace B0 := below_on hbw16 B0
    replace Bw3 := below_on hbw16 Bw3
    replace Bw15 := below_on hbw16 Bw15
    go_wp2_with fail
    with_reducible refine (toFeatS_any A0 n0 cp0 xs0 _ (r0.on B0) hn0).mono ?_
    rintro e w17 ⟨rfl, ow17, hbw17⟩
    have zw17 := hbw17.size
    replace B0 := below_on hbw17 B0
    replace Bw3 := below_on hbw17 Bw3
    replace Bw15 := below_on hbw17 Bw15
    have Bw17 : Below w17.heap.size w17 w17 := Below.refl _ _
    go_wp2_with fail
    with_reducible refine (toFeatS_any A1 n1 cp1 xs1 _ (r1.on B0) hn1).mono ?_
    rintro e w18 ⟨rfl, ow18, hbw18⟩
    have zw18 := hbw18.size
    replace B0 := below_on hbw18 B0
    replace Bw3 := below_on hbw18 Bw3
    replace Bw15 := below_on hbw18 Bw15
    replace Bw17 := below_on hbw18 Bw17
    have Bw18 : Below w18.heap.size w18 w18 := Below.refl _ _
    go_wp2_with fail
    with_reducible refine (iPathE_any _ _ _ _ _ _ xs0 xs1 a2 _ ((RdL.of_own r0.len ow17).on Bw17) ((RdL.of_own r1.len ow18).on Bw18) hn0 hn1).mono ?_
    rintro e w19 ⟨Aw19, nw19, cw19, rfl, ow19, lw19, pw19, hbw19⟩
    have zw19 := hbw19.size
    replace B0 := below_on hbw19 B0
    replace Bw3 := below_on hbw19 Bw3
    replace Bw15 := below_on hbw19 Bw15
    replace Bw17 := below_on hbw19 Bw17
    replace Bw18 := below_on hbw19 Bw18
    have Bw19 : Below w19.heap.size w19 w19 := Below.refl _ _
    go_wp2_with fail
    with_reducible refine (eqPairS_yes _ _ _ _ _ _ _ _ ((RdL.of_own lw19 ow19).on Bw19) ((RdL.of_own lw3 ow3).on Bw3) pw19).mono ?_
    rintro e w20 ⟨rfl, hbw20⟩
    have zw20 := hbw20.size
    replace B0 := below_on hbw20 B0
    replace Bw3 := below_on hbw20 Bw3
    replace Bw15 := below_on hbw20 Bw15
    replace Bw17 := below_on hbw20 Bw17
    replace Bw18 := below_on hbw20 Bw18
    replace Bw19 := below_on hbw20 Bw19
    go_wp2_with fail
    with_reducible refine (heldPairS_any _ _ _ _ _ ((RdL.of_own (marks2_len _ _) ow15).on Bw15) pw6 (by omega) (by omega)).mono ?_
    rintro e w21 ⟨rfl, hbw21⟩
    have zw21 := hbw21.size
    replace B0 := below_on hbw21 B0
    replace Bw3 := below_on hbw21 Bw3
    replace Bw15 := below_on hbw21 Bw15
    replace Bw17 := below_on hbw21 Bw17
    replace Bw18 := below_on hbw21 Bw18
    replace Bw19 := below_on hbw21 Bw19
    go_wp2
    go_ret
    exact ⟨rfl, B0⟩
  · by_cases hs0 : n0 ≤ 1048576
    · go_enter Try.func6, Try.ntmps6
      go_wp2_with fail
      have B0 : Below w.heap.size w w := Below.refl _ _
      with_reducible refine (szFeatS_yes _ _ _ _ _ (by omega) (by omega) (by omega) (by omega)).mono ?_
      rintro e w' ⟨rfl, rfl⟩
      go_wp2_with fail
      with_reducible refine (szFeatS_no _ _ _ _ _ (by omega) (by omega) (by omega) (by omega)).mono ?_
      rintro e w' ⟨rfl, rfl⟩
      go_wp2
      go_ret
      exact ⟨rfl, B0⟩
    · go_enter Try.func6, Try.ntmps6
      go_wp2_with fail
      have B0 : Below w.heap.size w w := Below.refl _ _
      with_reducible refine (szFeatS_no _ _ _ _ _ (by omega) (by omega) (by omega) (by omega)).mono ?_
      rintro e w' ⟨rfl, rfl⟩
      go_wp2
      go_ret
      exact ⟨rfl, B0⟩

/-! ### From the walk to the statement -/
set_option maxRecDepth 100000 in
theorem lifted (os : Os) (started : os.Started) (H : Type) (enc : TypeId × Value → H) :
    ReturnsInHanded {} Try.checked os 6 .any (Rows.fnExactElasticPathSpec.pre6 enc Try.prog Try.f6 Rows.fnExactElasticPathRow.domain false) (Rows.fnExactElasticPathSpec.post enc Try.prog Try.f6 false true false false) := by
  refine returnsInHanded_of_change (C := Try.checked) Try.own started (by kernel_rfl) Try.func6
    (ChangeSpec.witness6 (enc := enc) (C := Try.checked) false ⟨#[], #[.slice none 0 0, .slice none 0 0, .int .i64 0], []⟩ 8 (by kernel_rfl) (by kernel_rfl) (by kernel_rfl) (by kernel_rfl)) ?_
  intro W base args ds gs before hval0 hW hcnd _
  have hval : ∀ (j : Nat) t v, Try.f6.params[j]? = some t → args[j]? = some v → Value.okWide Try.prog W .any base t v := hval0
  have hW' := hW
  obtain ⟨p, q, hA0, hV, rfl, hfz, hnd⟩ := hW
  have hA : DataW.TrodAll enc Try.prog W 0 (fun _ => true) true Try.f6.params.toList args.toList ds p := hA0
  rw [Try.params6] at hA hval
  obtain ⟨v0, vs0, d0, ds0, p0, q0, hargs, rfl, rfl, h0, tr0⟩ := trodAll_cons hA
  obtain ⟨v1, vs1, d1, ds1, p1, q1, rfl, rfl, rfl, h1, tr1⟩ := trodAll_cons tr0
  obtain ⟨v2, vs2, d2, ds2, p2, q2, rfl, rfl, rfl, h2, tr2⟩ := trodAll_cons tr1
  obtain ⟨rfl, rfl, rfl⟩ := trodAll_nil tr2
  obtain rfl : args = #[v0, v1, v2] := by cases args; simp_all
  obtain ⟨rfl, rfl⟩ := trodVars_none hV
  have k0 := h0
  have lt0 : ∀ x ∈ p0, x.block < W.heap.size := by obtain ⟨m, hm⟩ := k0; exact DataW.trod_lt m _ _ _ hm
  obtain ⟨A0, n0, cp0, xs0, rfl, r0, g0⟩ := opFeats (hval 0 22 v0 rfl rfl) h0
  have k1 := h1
  have lt1 : ∀ x ∈ p1, x.block < W.heap.size := by obtain ⟨m, hm⟩ := k1; exact DataW.trod_lt m _ _ _ hm
  obtain ⟨A1, n1, cp1, xs1, rfl, r1, g1⟩ := opFeats (hval 1 22 v1 rfl rfl) h1
  have k2 := h2
  have lt2 : ∀ x ∈ p2, x.block < W.heap.size := by obtain ⟨m, hm⟩ := k2; exact DataW.trod_lt m _ _ _ hm
  obtain ⟨a2, rfl, g2⟩ := opI64 (hval 2 2 v2 rfl rfl) h2
  clear hA0 hval0
  refine (walk A0 n0 cp0 xs0 A1 n1 cp1 xs1 a2 W r0 g0 r1 g1 g2).mono fun e W' ⟨he, bel⟩ => ?_
  subst he
  exact ⟨_, rfl, _, _, _, [], _, [], hW', trodAll_mk1 (shut_bool Try.underlying4 _), (trodAll_cons_mk (Below.trod Try.laidOut (by kernel_rfl) (of_decide_eq_true (by kernel_rfl)) k0 bel lt0) (trodAll_cons_mk (Below.trod Try.laidOut (by kernel_rfl) (of_decide_eq_true (by kernel_rfl)) k1 bel lt1) (trodAll_cons_mk (Below.trod Try.laidOut (by kernel_rfl) (of_decide_eq_true (by kernel_rfl)) k2 bel lt2) trodAll_mk0))), rfl, bel.frame _, fun h => by cases h⟩

theorem over : Rows.fnExactElasticPathRow.holds Try.pinned (OpenSpec.ofChange Rows.fnExactElasticPathSpec) :=
  OpenClaim.holds_of_wide 6 Try.f6 rfl rfl rfl rfl rfl rfl rfl ⟨rfl, rfl, rfl, rfl, rfl⟩ rfl rfl rfl rfl rfl (by kernel_rfl) Try.func6 (by kernel_rfl)
    (of_decide_eq_true (by kernel_rfl)) (by unfold Func.isWrapper; first | (rw [if_pos (by decide +kernel)]; kernel_rfl) | (rw [if_neg (by decide +kernel)]; exact ⟨rfl, rfl⟩))
    (fun os started H enc _ => lifted os started H enc)

theorem proved : Rows.FnExactElasticPathSaid := over
end fnExactElasticPath
end Go.Proofs.Ytfbcnojnpjbghaa
