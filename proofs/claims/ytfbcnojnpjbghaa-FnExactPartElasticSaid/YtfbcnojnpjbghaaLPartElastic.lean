/- The law of PartElastic returns true for every input: the program's PartElastic and the reference's return the same. No condition: every argument that can be read. -/
import Derived.Test.YtfbcnojnpjbghaaPg
import Derived.Test.YtfbcnojnpjbghaaAr
import Derived.ProofKit
import Derived.Deep.RegionHeld3
import Derived.ChangeOld
namespace Go.Proofs.Ytfbcnojnpjbghaa
open Go.ChangeShapes Go.WideShapes Go.ChangeAt Go.RowKit
namespace fnExactPartElastic
set_option linter.unusedVariables false
theorem walk (A0 : Option Addr) (n0 cp0 : Nat) (xs0 : List T3) (A1 : Option Addr) (n1 cp1 : Nat) (xs1 : List T3) (w : World) (r0 : RdL c3 3 w w.heap.size A0 n0 cp0 xs0) (g0 : ∀ x ∈ xs0, ok3 x) (r1 : RdL c3 3 w w.heap.size A1 n1 cp1 xs1) (g1 : ∀ x ∈ xs1, ok3 x) :
    Calls Try.prog 3 #[.slice A0 n0 cp0, .slice A1 n1 cp1] w fun e w' => e = .returned (.bool true) ∧ Below w.heap.size w w' := by
  have m0 : n0 ≤ 9223372036854775807 := Nat.le_trans r0.cap r0.capm
  have m1 : n1 ≤ 9223372036854775807 := Nat.le_trans r1.cap r1.capm
  by_cases hbig : n0 + n1 ≤ 1048576
  · have hn0 : n0 ≤ 1048576 := by omega
    have hn1 : n1 ≤ 1048576 := by omega
    go_enter Try.func3, Try.ntmps3
    go_wp2_with fail
    have B0 : Below w.heap.size w w := Below.refl _ _
    with_reducible refine (szFeatS_yes _ _ _ _ _ (by omega) (by omega) (by omega) (by omega)).mono ?_
    rintro e w' ⟨rfl, rfl⟩
    go_wp2_with fail
    with_reducible refine (szFeatS_yes _ _ _ _ _ (by omega) (by omega) (by omega) (by omega)).mono ?_
    rintro e w' ⟨rfl, rfl⟩
    go_wp2_with fail
    with_reducible refine (toFeatS_any A0 n0 cp0 xs0 _ (r0.on B0) hn0).mono ?_
    rintro e w1 ⟨rfl, ow1, hbw1⟩
    have zw1 := hbw1.size
    replace B0 := below_on hbw1 B0
    have Bw1 : Below w1.heap.size w1 w1 := Below.refl _ _
    go_wp2_with fail
    with_reducible refine (toFeatS_any A1 n1 cp1 xs1 _ (r1.on B0) hn1).mono ?_
    rintro e w2 ⟨rfl, ow2, hbw2⟩
    have zw2 := hbw2.size
    replace B0 := below_on hbw2 B0
    replace Bw1 := below_on hbw2 Bw1
    have Bw2 : Below w2.heap.size w2 w2 := Below.refl _ _
    go_wp2_with fail
    with_reducible refine (sPart_any _ _ _ _ _ _ xs0 xs1 _ ((RdL.of_own r0.len ow1).on Bw1) ((RdL.of_own r1.len ow2).on Bw2) hn0 hn1).mono ?_
    rintro e w3 ⟨rfl, hbw3⟩
    have zw3 := hbw3.size
    replace B0 := below_on hbw3 B0
    replace Bw1 := below_on hbw3 Bw1
    replace Bw2 := below_on hbw3 Bw2
    clear Bw1
    clear Bw2
    go_wp2_with fail
    with_reducible refine (toFeatS_any A0 n0 cp0 xs0 _ (r0.on B0) hn0).mono ?_
    rintro e w4 ⟨rfl, ow4, hbw4⟩
    have zw4 := hbw4.size
    replace B0 := below_on hbw4 B0
    have Bw4 : Below w4.heap.size w4 w4 := Below.refl _ _
    go_wp2_with fail
    with_reducible refine (toFeatS_any A1 n1 cp1 xs1 _ (r1.on B0) hn1).mono ?_
    rintro e w5 ⟨rfl, ow5, hbw5⟩
    have zw5 := hbw5.size
    replace B0 := below_on hbw5 B0
    replace Bw4 := below_on hbw5 Bw4
    have Bw5 : Below w5.heap.size w5 w5 := Below.refl _ _
    go_wp2_with fail
    with_reducible refine (iPart_any _ _ _ _ _ _ xs0 xs1 _ ((RdL.of_own r0.len ow4).on Bw4) ((RdL.of_own r1.len ow5).on Bw5) hn0 hn1).mono ?_
    rintro e w6 ⟨rfl, hbw6⟩
    have zw6 := hbw6.size
    replace B0 := below_on hbw6 B0
    replace Bw4 := below_on hbw6 Bw4
    replace Bw5 := below_on hbw6 Bw5
    go_wp2_with fail
    with_reducible refine (toFeatS_any A0 n0 cp0 xs0 _ (r0.on B0) hn0).mono ?_
    rintro e w7 ⟨rfl, ow7, hbw7⟩
    have zw7 := hbw7.size
    replace B0 := below_on hbw7 B0
    replace Bw4 := below_on hbw7 Bw4
    replace Bw5 := below_on hbw7 Bw5
    have Bw7 : Below w7.heap.size w7 w7 := Below.refl _ _
    go_wp2_with fail
    with_reducible refine (eqFeatS_yes _ _ _ _ _ _ _ _ ((RdL.of_own r0.len ow4).on Bw4) ((RdL.of_own r0.len ow7).on Bw7) hn0).mono ?_
    rintro e w8 ⟨rfl, hbw8⟩
    have zw8 := hbw8.size
    replace B0 := below_on hbw8 B0
    replace Bw4 := below_on hbw8 Bw4
    replace Bw5 := below_on hbw8 Bw5
    replace Bw7 := below_on hbw8 Bw7
    go_wp2_with fail
    with_reducible refine (toFeatS_any A1 n1 cp1 xs1 _ (r1.on B0) hn1).mono ?_
    rintro e w9 ⟨rfl, ow9, hbw9⟩
    have zw9 := hbw9.size
    replace B0 := below_on hbw9 B0
    replace Bw4 := below_on hbw9 Bw4
    replace Bw5 := below_on hbw9 Bw5
    replace Bw7 := below_on hbw9 Bw7
    have Bw9 : Below w9.heap.size w9 w9 := Below.refl _ _
    go_wp2_with fail
    with_reducible refine (eqFeatS_yes _ _ _ _ _ _ _ _ ((RdL.of_own r1.len ow5).on Bw5) ((RdL.of_own r1.len ow9).on Bw9) hn1).mono ?_
    rintro e w10 ⟨rfl, hbw10⟩
    have zw10 := hbw10.size
    replace B0 := below_on hbw10 B0
    replace Bw4 := below_on hbw10 Bw4
    replace Bw5 := below_on hbw10 Bw5
    replace Bw7 := below_on hbw10 Bw7
    replace Bw9 := below_on hbw10 Bw9
    go_wp2
    go_ret
    exact ⟨rfl, B0⟩
  · by_cases hs0 : n0 ≤ 1048576
    · go_enter Try.func3, Try.ntmps3
      go_wp2_with fail
      have B0 : Below w.heap.size w w := Below.refl _ _
      with_reducible refine (szFeatS_yes _ _ _ _ _ (by omega) (by omega) (by omega) (by omega)).mono ?_
      rintro e w' ⟨rfl, rfl⟩
      go_wp2_with fail
      with_reducible refine (szFeatS_no _ _ _ _ _ (by omega) (by omega) (by omega) (by omega)).mono ?_
      rintro e w' ⟨rfl, rfl⟩
      go_wp2
      go_ret
      exact ⟨rfl, B0⟩
    · go_enter Try.func3, Try.ntmps3
      go_wp2_with fail
      have B0 : Below w.heap.size w w := Below.refl _ _
      with_reducible refine (szFeatS_no _ _ _ _ _ (by omega) (by omega) (by omega) (by omega)).mono ?_
      rintro e w' ⟨rfl, rfl⟩
      go_wp2
      go_ret
      exact ⟨rfl, B0⟩

/-! ### From the walk to the statement -/
set_option maxRecDepth 100000 in
theorem lifted (os : Os) (started : os.Started) (H : Type) (enc : TypeId × Value → H) :
    ReturnsInHanded {} Try.checked os 3 .any (Rows.fnExactPartElasticSpec.pre6 enc Try.prog Try.f3 Rows.fnExactPartElasticRow.domain false) (Rows.fnExactPartElasticSpec.post enc Try.prog Try.f3 false true false false) := by
  refine returnsInHanded_of_change (C := Try.checked) Try.own started (by kernel_rfl) Try.func3
    (ChangeSpec.witness6 (enc := enc) (C := Try.checked) false ⟨#[], #[.slice none 0 0, .slice none 0 0], []⟩ 8 (by kernel_rfl) (by kernel_rfl) (by kernel_rfl) (by kernel_rfl)) ?_
  intro W base args ds gs before hval0 hW hcnd _
  have hval : ∀ (j : Nat) t v, Try.f3.params[j]? = some t → args[j]? = some v → Value.okWide Try.prog W .any base t v := hval0
  have hW' := hW
  obtain ⟨p, q, hA0, hV, rfl, hfz, hnd⟩ := hW
  have hA : DataW.TrodAll enc Try.prog W 0 (fun _ => true) true Try.f3.params.toList args.toList ds p := hA0
  rw [Try.params3] at hA hval
  obtain ⟨v0, vs0, d0, ds0, p0, q0, hargs, rfl, rfl, h0, tr0⟩ := trodAll_cons hA
  obtain ⟨v1, vs1, d1, ds1, p1, q1, rfl, rfl, rfl, h1, tr1⟩ := trodAll_cons tr0
  obtain ⟨rfl, rfl, rfl⟩ := trodAll_nil tr1
  obtain rfl : args = #[v0, v1] := by cases args; simp_all
  obtain ⟨rfl, rfl⟩ := trodVars_none hV
  have k0 := h0
  have lt0 : ∀ x ∈ p0, x.block < W.heap.size := by obtain ⟨m, hm⟩ := k0; exact DataW.trod_lt m _ _ _ hm
  obtain ⟨A0, n0, cp0, xs0, rfl, r0, g0⟩ := opFeats (hval 0 22 v0 rfl rfl) h0
  have k1 := h1
  have lt1 : ∀ x ∈ p1, x.block < W.heap.size := by obtain ⟨m, hm⟩ := k1; exact DataW.trod_lt m _ _ _ hm
  obtain ⟨A1, n1, cp1, xs1, rfl, r1, g1⟩ := opFeats (hval 1 22 v1 rfl rfl) h1
  clear hA0 hval0
  refine (walk A0 n0 cp0 xs0 A1 n1 cp1 xs1 W r0 g0 r1 g1).mono fun e W' ⟨he, bel⟩ => ?_
  subst he
  exact ⟨_, rfl, _, _, _, [], _, [], hW', trodAll_mk1 (shut_bool Try.underlying4 _), (trodAll_cons_mk (Below.trod Try.laidOut (by kernel_rfl) (of_decide_eq_true (by kernel_rfl)) k0 bel lt0) (trodAll_cons_mk (Below.trod Try.laidOut (by kernel_rfl) (of_decide_eq_true (by kernel_rfl)) k1 bel lt1) trodAll_mk0)), rfl, bel.frame _, fun h => by cases h⟩

theorem over : Rows.fnExactPartElasticRow.holds Try.pinned (OpenSpec.ofChange Rows.fnExactPartElasticSpec) :=
  OpenClaim.holds_of_wide 3 Try.f3 rfl rfl rfl rfl rfl rfl rfl ⟨rfl, rfl, rfl, rfl, rfl⟩ rfl rfl rfl rfl rfl (by kernel_rfl) Try.func3 (by kernel_rfl)
    (of_decide_eq_true (by kernel_rfl)) (by unfold Func.isWrapper; first | (rw [if_pos (by decide +kernel)]; kernel_rfl) | (rw [if_neg (by decide +kernel)]; exact ⟨rfl, rfl⟩))
    (fun os started H enc _ => lifted os started H enc)

theorem proved : Rows.FnExactPartElasticSaid := over
end fnExactPartElastic
end Go.Proofs.Ytfbcnojnpjbghaa
