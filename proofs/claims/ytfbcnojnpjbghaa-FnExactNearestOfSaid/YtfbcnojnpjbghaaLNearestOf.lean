/- The law of NearestOf returns true for every input: the program's NearestOf and the reference's return the same. No condition: every argument that can be read. -/
import Derived.Test.YtfbcnojnpjbghaaNp
import Derived.Test.YtfbcnojnpjbghaaAr
import Derived.ProofKit
import Derived.Deep.RegionHeld3
import Derived.ChangeOld
namespace Go.Proofs.Ytfbcnojnpjbghaa
open Go.ChangeShapes Go.WideShapes Go.ChangeAt Go.RowKit
namespace fnExactNearestOf
set_option linter.unusedVariables false
theorem walk (A0 : Option Addr) (n0 cp0 : Nat) (xs0 : List T3) (A1 : Option Addr) (n1 cp1 : Nat) (xs1 : List (List T3)) (a2 : Int) (w : World) (r0 : RdL c3 3 w w.heap.size A0 n0 cp0 xs0) (g0 : ∀ x ∈ xs0, ok3 x) (r1 : NL w w.heap.size A1 n1 cp1 xs1) (g1 : ∀ x ∈ xs1, ∀ q ∈ x, ok3 q) (g2 : I64 a2) :
    Calls Try.prog 7 #[.slice A0 n0 cp0, .slice A1 n1 cp1, .int .i64 a2] w fun e w' => e = .returned (.bool true) ∧ Below w.heap.size w w' := by
  have m0 : n0 ≤ 9223372036854775807 := Nat.le_trans r0.cap r0.capm
  have m1 : n1 ≤ 9223372036854775807 := Nat.le_trans r1.cap r1.capm
  by_cases hbig : n0 + totL xs1 ≤ 1048576
  · have hn0 : n0 ≤ 1048576 := by omega
    have htotL_xs1 : totL xs1 ≤ 1048576 := by omega
    go_enter Try.func7, Try.ntmps7
    go_wp2_with fail
    have B0 : Below w.heap.size w w := Below.refl _ _
    with_reducible refine (szFeatS_yes _ _ _ _ _ (by omega) (by omega) (by omega) (by omega)).mono ?_
    rintro e w' ⟨rfl, rfl⟩
    go_wp2_with fail
    with_reducible refine (szFeatSS_yes _ _ _ xs1 _ _ (r1.on B0) (by omega) (by omega) (by omega)).mono ?_
    rintro e w1 ⟨rfl, hbw1⟩
    have zw1 := hbw1.size
    replace B0 := below_on hbw1 B0
    go_wp2_with fail
    with_reducible refine (toFeatS_any A0 n0 cp0 xs0 _ (r0.on B0) hn0).mono ?_
    rintro e w2 ⟨rfl, ow2, hbw2⟩
    have zw2 := hbw2.size
    replace B0 := below_on hbw2 B0
    have Bw2 : Below w2.heap.size w2 w2 := Below.refl _ _
    go_wp2_with fail
    with_reducible refine (toFeatSS_own A1 n1 cp1 xs1 _ (r1.on B0) htotL_xs1).mono ?_
    rintro e w3 ⟨sw3, rfl, ow3, lw3, uw3, dw3, hbw3⟩
    have zw3 := hbw3.size
    replace B0 := below_on hbw3 B0
    replace Bw2 := below_on hbw3 Bw2
    have Bw3 : Below w3.heap.size w3 w3 := Below.refl _ _
    go_wp2_with fail
    with_reducible refine (sNearOf_any _ _ _ _ _ _ xs0 xs1 a2 _ ((RdL.of_own r0.len ow2).on Bw2) ((nl_own ow3 lw3 r1.len uw3).on Bw3) hn0 htotL_xs1).mono ?_
    rintro e w4 ⟨rfl, hbw4⟩
    have zw4 := hbw4.size
    replace B0 := below_on hbw4 B0
    replace Bw2 := below_on hbw4 Bw2
    replace Bw3 := below_on hbw4 Bw3
    clear Bw2
    clear Bw3
    go_wp2_with fail
    with_reducible refine (toFeatS_any A0 n0 cp0 xs0 _ (r0.on B0) hn0).mono ?_
    rintro e w5 ⟨rfl, ow5, hbw5⟩
    have zw5 := hbw5.size
    replace B0 := below_on hbw5 B0
    have Bw5 : Below w5.heap.size w5 w5 := Below.refl _ _
    go_wp2_with fail
    with_reducible refine (toFeatSS_own A1 n1 cp1 xs1 _ (r1.on B0) htotL_xs1).mono ?_
    rintro e w6 ⟨sw6, rfl, ow6, lw6, uw6, dw6, hbw6⟩
    have zw6 := hbw6.size
    replace B0 := below_on hbw6 B0
    replace Bw5 := below_on hbw6 Bw5
    have Bw6 : Below w6.heap.size w6 w6 := Below.refl _ _
    go_wp2_with fail
    with_reducible refine (iNearOf_any _ _ _ _ _ _ xs0 xs1 a2 _ ((RdL.of_own r0.len ow5).on Bw5) ((nl_own ow6 lw6 r1.len uw6).on Bw6) hn0 htotL_xs1).mono ?_
    rintro e w7 ⟨rfl, hbw7⟩
    have zw7 := hbw7.size
    replace B0 := below_on hbw7 B0
    replace Bw5 := below_on hbw7 Bw5
    replace Bw6 := below_on hbw7 Bw6
    go_wp2_with fail
    with_reducible refine (toFeatS_any A0 n0 cp0 xs0 _ (r0.on B0) hn0).mono ?_
    rintro e w8 ⟨rfl, ow8, hbw8⟩
    have zw8 := hbw8.size
    replace B0 := below_on hbw8 B0
    replace Bw5 := below_on hbw8 Bw5
    replace Bw6 := below_on hbw8 Bw6
    have Bw8 : Below w8.heap.size w8 w8 := Below.refl _ _
    go_wp2_with fail
    with_reducible refine (eqFeatS_yes _ _ _ _ _ _ _ _ ((RdL.of_own r0.len ow5).on Bw5) ((RdL.of_own r0.len ow8).on Bw8) hn0).mono ?_
    rintro e w9 ⟨rfl, hbw9⟩
    have zw9 := hbw9.size
    replace B0 := below_on hbw9 B0
    replace Bw5 := below_on hbw9 Bw5
    replace Bw6 := below_on hbw9 Bw6
    replace Bw8 := below_on hbw9 Bw8
    go_wp2_with fail
    with_reducible refine (toFeatSS_own A1 n1 cp1 xs1 _ (r1.on B0) htotL_xs1).mono ?_
    rintro e w10 ⟨sw10, rfl, ow10, lw10, uw10, dw10, hbw10⟩
    have zw10 := hbw10.size
    replace B0 := below_on hbw10 B0
    replace Bw5 := below_on hbw10 Bw5
    replace Bw6 := below_on hbw10 Bw6
    replace Bw8 := below_on hbw10 Bw8
    have Bw10 : Below w10.heap.size w10 w10 := Below.refl _ _
    go_wp2_with fail
    with_reducible refine (eqFeatSS_yes _ _ _ _ _ _ xs1 _ ((nl_own ow6 lw6 r1.len uw6).on Bw6) ((nl_own ow10 lw10 r1.len uw10).on Bw10) htotL_xs1).mono ?_
    rintro e w11 ⟨rfl, hbw11⟩
    have zw11 := hbw11.size
    replace B0 := below_on hbw11 B0
    replace Bw5 := below_on hbw11 Bw5
    replace Bw6 := below_on hbw11 Bw6
    replace Bw8 := below_on hbw11 Bw8
    replace Bw10 := below_on hbw11 Bw10
    go_wp2
    go_ret
    exact ⟨rfl, B0⟩
  · by_cases hs0 : n0 ≤ 1048576
    · go_enter Try.func7, Try.ntmps7
      go_wp2_with fail
      have B0 : Below w.heap.size w w := Below.refl _ _
      with_reducible refine (szFeatS_yes _ _ _ _ _ (by omega) (by omega) (by omega) (by omega)).mono ?_
      rintro e w' ⟨rfl, rfl⟩
      go_wp2_with fail
      with_reducible refine (szFeatSS_no _ _ _ xs1 _ _ (r1.on B0) (by omega) (by omega) (by omega)).mono ?_
      rintro e w1 ⟨rfl, hbw1⟩
      have zw1 := hbw1.size
      replace B0 := below_on hbw1 B0
      go_wp2
      go_ret
      exact ⟨rfl, B0⟩
    · go_enter Try.func7, Try.ntmps7
      go_wp2_with fail
      have B0 : Below w.heap.size w w := Below.refl _ _
      with_reducible refine (szFeatS_no _ _ _ _ _ (by omega) (by omega) (by omega) (by omega)).mono ?_
      rintro e w' ⟨rfl, rfl⟩
      go_wp2
      go_ret
      exact ⟨rfl, B0⟩

/-! ### From the walk to the statement -/
set_option maxRecDepth 100000 in
theorem lifted (os : Os) (started : os.Started) (H : Type) (enc : TypeId × Value → H) :
    ReturnsInHanded {} Try.checked os 7 .any (Rows.fnExactNearestOfSpec.pre6 enc Try.prog Try.f7 Rows.fnExactNearestOfRow.domain false) (Rows.fnExactNearestOfSpec.post enc Try.prog Try.f7 false true false false) := by
  refine returnsInHanded_of_change (C := Try.checked) Try.own started (by kernel_rfl) Try.func7
    (ChangeSpec.witness6 (enc := enc) (C := Try.checked) false ⟨#[], #[.slice none 0 0, .slice none 0 0, .int .i64 0], []⟩ 8 (by kernel_rfl) (by kernel_rfl) (by kernel_rfl) (by kernel_rfl)) ?_
  intro W base args ds gs before hval0 hW hcnd _
  have hval : ∀ (j : Nat) t v, Try.f7.params[j]? = some t → args[j]? = some v → Value.okWide Try.prog W .any base t v := hval0
  have hW' := hW
  obtain ⟨p, q, hA0, hV, rfl, hfz, hnd⟩ := hW
  have hA : DataW.TrodAll enc Try.prog W 0 (fun _ => true) true Try.f7.params.toList args.toList ds p := hA0
  rw [Try.params7] at hA hval
  obtain ⟨v0, vs0, d0, ds0, p0, q0, hargs, rfl, rfl, h0, tr0⟩ := trodAll_cons hA
  obtain ⟨v1, vs1, d1, ds1, p1, q1, rfl, rfl, rfl, h1, tr1⟩ := trodAll_cons tr0
  obtain ⟨v2, vs2, d2, ds2, p2, q2, rfl, rfl, rfl, h2, tr2⟩ := trodAll_cons tr1
  obtain ⟨rfl, rfl, rfl⟩ := trodAll_nil tr2
  obtain rfl : args = #[v0, v1, v2] := by cases args; simp_all
  obtain ⟨rfl, rfl⟩ := trodVars_none hV
  have k0 := h0
  have lt0 : ∀ x ∈ p0, x.block < W.heap.size := by obtain ⟨m, hm⟩ := k0; exact DataW.trod_lt m _ _ _ hm
  obtain ⟨A0, n0, cp0, xs0, rfl, r0, g0⟩ := opFeats (hval 0 22 v0 rfl rfl) h0
  have k1 := h1
  have lt1 : ∀ x ∈ p1, x.block < W.heap.size := by obtain ⟨m, hm⟩ := k1; exact DataW.trod_lt m _ _ _ hm
  obtain ⟨A1, n1, cp1, xs1, rfl, r1, g1⟩ := opFeatSS (hval 1 47 v1 rfl rfl) h1
  have k2 := h2
  have lt2 : ∀ x ∈ p2, x.block < W.heap.size := by obtain ⟨m, hm⟩ := k2; exact DataW.trod_lt m _ _ _ hm
  obtain ⟨a2, rfl, g2⟩ := opI64 (hval 2 2 v2 rfl rfl) h2
  clear hA0 hval0
  refine (walk A0 n0 cp0 xs0 A1 n1 cp1 xs1 a2 W r0 g0 r1 g1 g2).mono fun e W' ⟨he, bel⟩ => ?_
  subst he
  exact ⟨_, rfl, _, _, _, [], _, [], hW', trodAll_mk1 (shut_bool Try.underlying4 _), (trodAll_cons_mk (Below.trod Try.laidOut (by kernel_rfl) (of_decide_eq_true (by kernel_rfl)) k0 bel lt0) (trodAll_cons_mk (Below.trod Try.laidOut (by kernel_rfl) (of_decide_eq_true (by kernel_rfl)) k1 bel lt1) (trodAll_cons_mk (Below.trod Try.laidOut (by kernel_rfl) (of_decide_eq_true (by kernel_rfl)) k2 bel lt2) trodAll_mk0))), rfl, bel.frame _, fun h => by cases h⟩

theorem over : Rows.fnExactNearestOfRow.holds Try.pinned (OpenSpec.ofChange Rows.fnExactNearestOfSpec) :=
  OpenClaim.holds_of_wide 7 Try.f7 rfl rfl rfl rfl rfl rfl rfl ⟨rfl, rfl, rfl, rfl, rfl⟩ rfl rfl rfl rfl rfl (by kernel_rfl) Try.func7 (by kernel_rfl)
    (of_decide_eq_true (by kernel_rfl)) (by unfold Func.isWrapper; first | (rw [if_pos (by decide +kernel)]; kernel_rfl) | (rw [if_neg (by decide +kernel)]; exact ⟨rfl, rfl⟩))
    (fun os started H enc _ => lifted os started H enc)

theorem proved : Rows.FnExactNearestOfSaid := over
end fnExactNearestOf
end Go.Proofs.Ytfbcnojnpjbghaa
