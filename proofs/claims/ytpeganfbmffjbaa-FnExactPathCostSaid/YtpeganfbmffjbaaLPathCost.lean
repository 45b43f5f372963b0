/- The law of PathCost returns true for every input: the program's PathCost and the reference's return the same. No condition: every argument that can be read. -/
import Derived.Test.YtpeganfbmffjbaaPc
import Derived.Test.YtpeganfbmffjbaaAr
import Derived.ProofKit
import Derived.Deep.RegionHeld3
import Derived.ChangeOld
namespace Go.Proofs.Ytpeganfbmffjbaa
open Go.ChangeShapes Go.WideShapes Go.ChangeAt Go.RowKit
namespace fnExactPathCost
set_option linter.unusedVariables false
theorem walk (A0 : Option Addr) (n0 cp0 : Nat) (xs0 : List T3) (A1 : Option Addr) (n1 cp1 : Nat) (xs1 : List T3) (A2 : Option Addr) (n2 cp2 : Nat) (xs2 : List T2) (w : World) (r0 : RdL c3 3 w w.heap.size A0 n0 cp0 xs0) (g0 : ∀ x ∈ xs0, ok3 x) (r1 : RdL c3 3 w w.heap.size A1 n1 cp1 xs1) (g1 : ∀ x ∈ xs1, ok3 x) (r2 : RdL c2 2 w w.heap.size A2 n2 cp2 xs2) (g2 : ∀ x ∈ xs2, ok2 x) :
    Calls Try.prog 10 #[.slice A0 n0 cp0, .slice A1 n1 cp1, .slice A2 n2 cp2] w fun e w' => e = .returned (.bool true) ∧ Below w.heap.size w w' := by
  have m0 : n0 ≤ 9223372036854775807 := Nat.le_trans r0.cap r0.capm
  have m1 : n1 ≤ 9223372036854775807 := Nat.le_trans r1.cap r1.capm
  have m2 : n2 ≤ 9223372036854775807 := Nat.le_trans r2.cap r2.capm
  by_cases hbig : n0 + n1 + n2 ≤ 1048576
  · have h0 : n0 ≤ 1048576 := by omega
    have h1 : n1 ≤ 1048576 := by omega
    have h2 : n2 ≤ 1048576 := by omega
    go_enter Try.func10, Try.ntmps10
    go_wp2_with fail
    with_reducible refine (szFeatS_yes _ _ _ _ _ (by omega) (by omega) (by omega) (by omega)).mono ?_
    rintro e w' ⟨rfl, rfl⟩
    go_wp2_with fail
    with_reducible refine (szFeatS_yes _ _ _ _ _ (by omega) (by omega) (by omega) (by omega)).mono ?_
    rintro e w' ⟨rfl, rfl⟩
    go_wp2_with fail
    with_reducible refine (szPairS_yes _ _ _ _ _ (by omega) (by omega) (by omega) (by omega)).mono ?_
    rintro e w' ⟨rfl, rfl⟩
    have B0 : Below w.heap.size w w := Below.refl _ _
    go_wp2_with fail
    with_reducible refine (toFeatS_any A0 n0 cp0 xs0 _ (r0.on B0) h0).mono ?_
    rintro e w1 ⟨rfl, o1, hb1⟩
    have z1 := hb1.size
    replace B0 := below_on hb1 B0
    have B1 : Below w1.heap.size w1 w1 := Below.refl _ _
    go_wp2_with fail
    with_reducible refine (toFeatS_any A1 n1 cp1 xs1 _ (r1.on B0) h1).mono ?_
    rintro e w2 ⟨rfl, o2, hb2⟩
    have z2 := hb2.size
    replace B0 := below_on hb2 B0
    replace B1 := below_on hb2 B1
    have B2 : Below w2.heap.size w2 w2 := Below.refl _ _
    go_wp2_with fail
    with_reducible refine (toPairS_any A2 n2 cp2 xs2 _ (r2.on B0) h2).mono ?_
    rintro e w3 ⟨rfl, o3, hb3⟩
    have z3 := hb3.size
    replace B0 := below_on hb3 B0
    replace B1 := below_on hb3 B1
    replace B2 := below_on hb3 B2
    have B3 : Below w3.heap.size w3 w3 := Below.refl _ _
    go_wp2_with fail
    with_reducible refine (sPathCost_any _ _ _ _ _ _ _ _ _ _ _ _ _ ((RdL.of_own r0.len o1).on B1) ((RdL.of_own r1.len o2).on B2) ((RdL.of_own r2.len o3).on B3) h0 h1 h2 g2).mono ?_
    rintro e w4 ⟨rfl, hb4⟩
    have z4 := hb4.size
    replace B0 := below_on hb4 B0
    replace B1 := below_on hb4 B1
    replace B2 := below_on hb4 B2
    replace B3 := below_on hb4 B3
    clear B1
    clear B2
    clear B3
    go_wp2_with fail
    with_reducible refine (toFeatS_any A0 n0 cp0 xs0 _ (r0.on B0) h0).mono ?_
    rintro e w5 ⟨rfl, o5, hb5⟩
    have z5 := hb5.size
    replace B0 := below_on hb5 B0
    have B5 : Below w5.heap.size w5 w5 := Below.refl _ _
    go_wp2_with fail
    with_reducible refine (toFeatS_any A1 n1 cp1 xs1 _ (r1.on B0) h1).mono ?_
    rintro e w6 ⟨rfl, o6, hb6⟩
    have z6 := hb6.size
    replace B0 := below_on hb6 B0
    replace B5 := below_on hb6 B5
    have B6 : Below w6.heap.size w6 w6 := Below.refl _ _
    go_wp2_with fail
    with_reducible refine (toPairS_any A2 n2 cp2 xs2 _ (r2.on B0) h2).mono ?_
    rintro e w7 ⟨rfl, o7, hb7⟩
    have z7 := hb7.size
    replace B0 := below_on hb7 B0
    replace B5 := below_on hb7 B5
    replace B6 := below_on hb7 B6
    have B7 : Below w7.heap.size w7 w7 := Below.refl _ _
    go_wp2_with fail
    with_reducible refine (iPathCost_any _ _ _ _ _ _ _ _ _ _ _ _ _ ((RdL.of_own r0.len o5).on B5) ((RdL.of_own r1.len o6).on B6) ((RdL.of_own r2.len o7).on B7) h0 h1 h2 g2).mono ?_
    rintro e w8 ⟨rfl, hb8⟩
    have z8 := hb8.size
    replace B0 := below_on hb8 B0
    replace B5 := below_on hb8 B5
    replace B6 := below_on hb8 B6
    replace B7 := below_on hb8 B7
    go_wp2_with fail
    with_reducible refine (toFeatS_any A0 n0 cp0 xs0 _ (r0.on B0) h0).mono ?_
    rintro e w9 ⟨rfl, o9, hb9⟩
    have z9 := hb9.size
    replace B0 := below_on hb9 B0
    replace B5 := below_on hb9 B5
    replace B6 := below_on hb9 B6
    replace B7 := below_on hb9 B7
    have B9 : Below w9.heap.size w9 w9 := Below.refl _ _
    go_wp2_with fail
    with_reducible refine (eqFeatS_yes _ _ _ _ _ _ _ _ ((RdL.of_own r0.len o5).on B5) ((RdL.of_own r0.len o9).on B9) h0).mono ?_
    rintro e w10 ⟨rfl, hb10⟩
    have z10 := hb10.size
    replace B0 := below_on hb10 B0
    replace B5 := below_on hb10 B5
    replace B6 := below_on hb10 B6
    replace B7 := below_on hb10 B7
    replace B9 := below_on hb10 B9
    go_wp2_with fail
    with_reducible refine (toFeatS_any A1 n1 cp1 xs1 _ (r1.on B0) h1).mono ?_
    rintro e w11 ⟨rfl, o11, hb11⟩
    have z11 := hb11.size
    replace B0 := below_on hb11 B0
    replace B5 := below_on hb11 B5
    replace B6 := below_on hb11 B6
    replace B7 := below_on hb11 B7
    replace B9 := below_on hb11 B9
    have B11 : Below w11.heap.size w11 w11 := Below.refl _ _
    go_wp2_with fail
    with_reducible refine (eqFeatS_yes _ _ _ _ _ _ _ _ ((RdL.of_own r1.len o6).on B6) ((RdL.of_own r1.len o11).on B11) h1).mono ?_
    rintro e w12 ⟨rfl, hb12⟩
    have z12 := hb12.size
    replace B0 := below_on hb12 B0
    replace B5 := below_on hb12 B5
    replace B6 := below_on hb12 B6
    replace B7 := below_on hb12 B7
    replace B9 := below_on hb12 B9
    replace B11 := below_on hb12 B11
    go_wp2_with fail
    with_reducible refine (toPairS_any A2 n2 cp2 xs2 _ (r2.on B0) h2).mono ?_
    rintro e w13 ⟨rfl, o13, hb13⟩
    have z13 := hb13.size
    replace B0 := below_on hb13 B0
    replace B5 := below_on hb13 B5
    replace B6 := below_on hb13 B6
    replace B7 := below_on hb13 B7
    replace B9 := below_on hb13 B9
    replace B11 := below_on hb13 B11
    have B13 : Below w13.heap.size w13 w13 := Below.refl _ _
    go_wp2_with fail
    with_reducible refine (eqPairS_yes _ _ _ _ _ _ _ _ ((RdL.of_own r2.len o7).on B7) ((RdL.of_own r2.len o13).on B13) h2).mono ?_
    rintro e w14 ⟨rfl, hb14⟩
    have z14 := hb14.size
    replace B0 := below_on hb14 B0
    replace B5 := below_on hb14 B5
    replace B6 := below_on hb14 B6
    replace B7 := below_on hb14 B7
    replace B9 := below_on hb14 B9
    replace B11 := below_on hb14 B11
    replace B13 := below_on hb14 B13
    go_wp2
    go_ret
    exact ⟨rfl, B0⟩
  · go_enter Try.func10, Try.ntmps10
    by_cases hs0 : n0 ≤ 1048576
    · go_wp2_with fail
      with_reducible refine (szFeatS_yes _ _ _ _ _ (by omega) (by omega) (by omega) (by omega)).mono ?_
      rintro e w' ⟨rfl, rfl⟩
      by_cases hs1 : n0 + n1 ≤ 1048576
      · go_wp2_with fail
        with_reducible refine (szFeatS_yes _ _ _ _ _ (by omega) (by omega) (by omega) (by omega)).mono ?_
        rintro e w' ⟨rfl, rfl⟩
        go_wp2_with fail
        with_reducible refine (szPairS_no _ _ _ _ _ (by omega) (by omega) (by omega) (by omega)).mono ?_
        rintro e w' ⟨rfl, rfl⟩
        go_wp2
        go_ret
        exact ⟨rfl, Below.refl _ _⟩
      · go_wp2_with fail
        with_reducible refine (szFeatS_no _ _ _ _ _ (by omega) (by omega) (by omega) (by omega)).mono ?_
        rintro e w' ⟨rfl, rfl⟩
        go_wp2
        go_ret
        exact ⟨rfl, Below.refl _ _⟩
    · go_wp2_with fail
      with_reducible refine (szFeatS_no _ _ _ _ _ (by omega) (by omega) (by omega) (by omega)).mono ?_
      rintro e w' ⟨rfl, rfl⟩
      go_wp2
      go_ret
      exact ⟨rfl, Below.refl _ _⟩

/-! ### From the walk to the statement -/
set_option maxRecDepth 100000 in
theorem lifted (os : Os) (started : os.Started) (H : Type) (enc : TypeId × Value → H) :
    ReturnsInHanded {} Try.checked os 10 .any (Rows.fnExactPathCostSpec.pre6 enc Try.prog Try.f10 Rows.fnExactPathCostRow.domain false) (Rows.fnExactPathCostSpec.post enc Try.prog Try.f10 false true false false) := by
  refine returnsInHanded_of_change (C := Try.checked) Try.own started (by kernel_rfl) Try.func10
    (ChangeSpec.witness6 (enc := enc) (C := Try.checked) false ⟨#[], #[.slice none 0 0, .slice none 0 0, .slice none 0 0], []⟩ 8 (by kernel_rfl) (by kernel_rfl) (by kernel_rfl) (by kernel_rfl)) ?_
  intro W base args ds gs before hval0 hW hcnd _
  have hval : ∀ (j : Nat) t v, Try.f10.params[j]? = some t → args[j]? = some v → Value.okWide Try.prog W .any base t v := hval0
  have hW' := hW
  obtain ⟨p, q, hA0, hV, rfl, hfz, hnd⟩ := hW
  have hA : DataW.TrodAll enc Try.prog W 0 (fun _ => true) true Try.f10.params.toList args.toList ds p := hA0
  rw [Try.params10] at hA hval
  obtain ⟨v0, vs0, d0, ds0, p0, q0, hargs, rfl, rfl, h0, tr0⟩ := trodAll_cons hA
  obtain ⟨v1, vs1, d1, ds1, p1, q1, rfl, rfl, rfl, h1, tr1⟩ := trodAll_cons tr0
  obtain ⟨v2, vs2, d2, ds2, p2, q2, rfl, rfl, rfl, h2, tr2⟩ := trodAll_cons tr1
  obtain ⟨rfl, rfl, rfl⟩ := trodAll_nil tr2
  obtain rfl : args = #[v0, v1, v2] := by cases args; simp_all
  obtain ⟨rfl, rfl⟩ := trodVars_none hV
  have k0 := h0
  have lt0 : ∀ x ∈ p0, x.block < W.heap.size := by obtain ⟨m, hm⟩ := k0; exact DataW.trod_lt m _ _ _ hm
  obtain ⟨A0, n0, cp0, xs0, rfl, r0, g0⟩ := opFeats (hval 0 22 v0 rfl rfl) h0
  have k1 := h1
  have lt1 : ∀ x ∈ p1, x.block < W.heap.size := by obtain ⟨m, hm⟩ := k1; exact DataW.trod_lt m _ _ _ hm
  obtain ⟨A1, n1, cp1, xs1, rfl, r1, g1⟩ := opFeats (hval 1 22 v1 rfl rfl) h1
  have k2 := h2
  have lt2 : ∀ x ∈ p2, x.block < W.heap.size := by obtain ⟨m, hm⟩ := k2; exact DataW.trod_lt m _ _ _ hm
  obtain ⟨A2, n2, cp2, xs2, rfl, r2, g2⟩ := opPairs (hval 2 39 v2 rfl rfl) h2
  clear hA0 hval0
  refine (walk A0 n0 cp0 xs0 A1 n1 cp1 xs1 A2 n2 cp2 xs2 W r0 g0 r1 g1 r2 g2).mono fun e W' ⟨he, bel⟩ => ?_
  subst he
  exact ⟨_, rfl, _, _, _, [], _, [], hW', trodAll_mk1 (shut_bool Try.underlying4 _), (trodAll_cons_mk (Below.trod Try.laidOut (by kernel_rfl) (of_decide_eq_true (by kernel_rfl)) k0 bel lt0) (trodAll_cons_mk (Below.trod Try.laidOut (by kernel_rfl) (of_decide_eq_true (by kernel_rfl)) k1 bel lt1) (trodAll_cons_mk (Below.trod Try.laidOut (by kernel_rfl) (of_decide_eq_true (by kernel_rfl)) k2 bel lt2) trodAll_mk0))), rfl, bel.frame _, fun h => by cases h⟩

theorem over : Rows.fnExactPathCostRow.holds Try.pinned (OpenSpec.ofChange Rows.fnExactPathCostSpec) :=
  OpenClaim.holds_of_wide 10 Try.f10 rfl rfl rfl rfl rfl rfl rfl ⟨rfl, rfl, rfl, rfl, rfl⟩ rfl rfl rfl rfl rfl (by kernel_rfl) Try.func10 (by kernel_rfl)
    (of_decide_eq_true (by kernel_rfl)) (by unfold Func.isWrapper; first | (rw [if_pos (by decide +kernel)]; kernel_rfl) | (rw [if_neg (by decide +kernel)]; exact ⟨rfl, rfl⟩))
    (fun os started H enc _ => lifted os started H enc)

theorem proved : Rows.FnExactPathCostSaid := over
end fnExactPathCost
end Go.Proofs.Ytpeganfbmffjbaa
