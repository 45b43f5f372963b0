/- The law of InputOf returns true for every input: the program's InputOf and the reference's return the same. No condition: every argument that can be read. -/
import Derived.Test.YtadfaajdjdbonaaIt
import Derived.Test.YtadfaajdjdbonaaAr
import Derived.ProofKit
import Derived.Deep.RegionHeld3
import Derived.ChangeOld
namespace Go.Proofs.Ytadfaajdjdbonaa
open Go.ChangeShapes Go.WideShapes Go.ChangeAt Go.RowKit
namespace fnExactInputOf
set_option linter.unusedVariables false
theorem walk (A0 : Option Addr) (n0 cp0 : Nat) (xs0 : List T3) (w : World) (r0 : RdL c3 3 w w.heap.size A0 n0 cp0 xs0) (g0 : ∀ x ∈ xs0, ok3 x) :
    Calls Try.prog 5 #[.slice A0 n0 cp0] w fun e w' => e = .returned (.bool true) ∧ Below w.heap.size w w' := by
  have m0 : n0 ≤ 9223372036854775807 := Nat.le_trans r0.cap r0.capm
  by_cases hbig : n0 ≤ 1048576
  · have hn0 : n0 ≤ 1048576 := by omega
    go_enter Try.func5, Try.ntmps5
    go_wp2_with fail
    have B0 : Below w.heap.size w w := Below.refl _ _
    with_reducible refine (szFeatS_yes _ _ _ _ _ (by omega) (by omega) (by omega) (by omega)).mono ?_
    rintro e w' ⟨rfl, rfl⟩
    go_wp2_with fail
    with_reducible refine (toFeatS_any A0 n0 cp0 xs0 _ (r0.on B0) hn0).mono ?_
    rintro e w1 ⟨rfl, ow1, hbw1⟩
    have zw1 := hbw1.size
    replace B0 := below_on hbw1 B0
    have Bw1 : Below w1.heap.size w1 w1 := Below.refl _ _
    go_wp2_with fail
    with_reducible refine (sInput_any _ _ _ xs0 _ ((RdL.of_own r0.len ow1).on Bw1) hn0).mono ?_
    rintro e w2 ⟨Aw2, nw2, cw2, rfl, ow2, lw2, pw2, hbw2⟩
    have zw2 := hbw2.size
    replace B0 := below_on hbw2 B0
    replace Bw1 := below_on hbw2 Bw1
    have Bw2 : Below w2.heap.size w2 w2 := Below.refl _ _
    clear Bw1
    go_wp2_with fail
    with_reducible refine (toFeatS_any A0 n0 cp0 xs0 _ (r0.on B0) hn0).mono ?_
    rintro e w3 ⟨rfl, ow3, hbw3⟩
    have zw3 := hbw3.size
    replace B0 := below_on hbw3 B0
    replace Bw2 := below_on hbw3 Bw2
    have Bw3 : Below w3.heap.size w3 w3 := Below.refl _ _
    go_wp2_with fail
    with_reducible refine (iInput_any _ _ _ xs0 _ ((RdL.of_own r0.len ow3).on Bw3) hn0).mono ?_
    rintro e w4 ⟨Aw4, nw4, cw4, rfl, ow4, lw4, pw4, hbw4⟩
    have zw4 := hbw4.size
    replace B0 := below_on hbw4 B0
    replace Bw2 := below_on hbw4 Bw2
    replace Bw3 := below_on hbw4 Bw3
    have Bw4 : Below w4.heap.size w4 w4 := Below.refl _ _
    go_wp2_with fail
    with_reducible refine (eqInt64S_yes _ _ _ _ _ _ _ _ ((RdL.of_own lw4 ow4).on Bw4) ((RdL.of_own lw2 ow2).on Bw2) pw4).mono ?_
    rintro e w5 ⟨rfl, hbw5⟩
    have zw5 := hbw5.size
    replace B0 := below_on hbw5 B0
    replace Bw2 := below_on hbw5 Bw2
    replace Bw3 := below_on hbw5 Bw3
    replace Bw4 := below_on hbw5 Bw4
    go_wp2_with fail
    with_reducible refine (toFeatS_any A0 n0 cp0 xs0 _ (r0.on B0) hn0).mono ?_
    rintro e w6 ⟨rfl, ow6, hbw6⟩
    have zw6 := hbw6.size
    replace B0 := below_on hbw6 B0
    replace Bw2 := below_on hbw6 Bw2
    replace Bw3 := below_on hbw6 Bw3
    replace Bw4 := below_on hbw6 Bw4
    have Bw6 : Below w6.heap.size w6 w6 := Below.refl _ _
    go_wp2_with fail
    with_reducible refine (eqFeatS_yes _ _ _ _ _ _ _ _ ((RdL.of_own r0.len ow3).on Bw3) ((RdL.of_own r0.len ow6).on Bw6) hn0).mono ?_
    rintro e w7 ⟨rfl, hbw7⟩
    have zw7 := hbw7.size
    replace B0 := below_on hbw7 B0
    replace Bw2 := below_on hbw7 Bw2
    replace Bw3 := below_on hbw7 Bw3
    replace Bw4 := below_on hbw7 Bw4
    replace Bw6 := below_on hbw7 Bw6
    go_wp2_with fail
    with_reducible refine (markFeatS_any _ _ _ _ _ _ _ (own_below ow3 Bw3) hn0 (by omega) (by omega)).mono ?_
    rintro e w8 ⟨rfl, ow8, hgw8⟩
    have zw8 := hgw8.size
    replace B0 := B0.grown hgw8 B0.size (fun q hq => by have := (ow3).lt q hq; omega)
    replace Bw2 := Bw2.grown hgw8 Bw2.size (fun q hq => by have := (ow3).lt q hq; omega)
    have ow8G := (own_below ow4 Bw4).kept hgw8 (own_ne ow4 (fun q hq => by have := (ow3).lt q hq; omega))
    clear Bw3
    clear Bw4
    clear Bw6
    have Bw8 : Below w8.heap.size w8 w8 := Below.refl _ _
    go_wp2_with fail
    with_reducible refine (eqInt64S_yes _ _ _ _ _ _ _ _ ((RdL.of_own lw4 ow8G).on Bw8) ((RdL.of_own lw2 ow2).on Bw2) pw4).mono ?_
    rintro e w9 ⟨rfl, hbw9⟩
    have zw9 := hbw9.size
    replace B0 := below_on hbw9 B0
    replace Bw2 := below_on hbw9 Bw2
    replace Bw8 := below_on hbw9 Bw8
    go_wp2_with fail
    with_reducible refine (markInt64S_any _ _ _ _ _ _ _ (own_below ow8G Bw8) pw4 (by omega) (by omega)).mono ?_
    rintro e w10 ⟨rfl, ow10, hgw10⟩
    have zw10 := hgw10.size
    replace B0 := B0.grown hgw10 B0.size (fun q hq => by have := (ow8G).lt q hq; omega)
    replace Bw2 := Bw2.grown hgw10 Bw2.size (fun q hq => by have := (ow8G).lt q hq; omega)
    clear Bw8
    have Bw10 : Below w10.heap.size w10 w10 := Below.refl _ _
    go_wp2_with fail
    with_reducible refine (heldInt64S_any _ _ _ _ _ ((RdL.of_own (marks1_len _ _) ow10).on Bw10) pw4 (by omega) (by omega)).mono ?_
    rintro e w11 ⟨rfl, hbw11⟩
    have zw11 := hbw11.size
    replace B0 := below_on hbw11 B0
    replace Bw2 := below_on hbw11 Bw2
    replace Bw10 := below_on hbw11 Bw10
    go_wp2_with fail
    with_reducible refine (toFeatS_any A0 n0 cp0 xs0 _ (r0.on B0) hn0).mono ?_
    rintro e w12 ⟨rfl, ow12, hbw12⟩
    have zw12 := hbw12.size
    replace B0 := below_on hbw12 B0
    replace Bw2 := below_on hbw12 Bw2
    replace Bw10 := below_on hbw12 Bw10
    have Bw12 : Below w12.heap.size w12 w12 := Below.refl _ _
    go_wp2_with fail
    with_reducible refine (iInput_any _ _ _ xs0 _ ((RdL.of_own r0.len ow12).on Bw12) hn0).mono ?_
    rintro e w13 ⟨Aw13, nw13, cw13, rfl, ow13, lw13, pw13, hbw13⟩
    have zw13 := hbw13.size
    replace B0 := below_on hbw13 B0
    replace Bw2 := below_on hbw13 Bw2
    replace Bw10 := below_on hbw13 Bw10
    replace Bw12 := below_on hbw13 Bw12
    have Bw13 : Below w13.heap.size w13 w13 := Below.refl _ _
    go_wp2_with fail
    with_reducible refine (eqInt64S_yes _ _ _ _ _ _ _ _ ((RdL.of_own lw13 ow13).on Bw13) ((RdL.of_own lw2 ow2).on Bw2) pw13).mono ?_
    rintro e w14 ⟨rfl, hbw14⟩
    have zw14 := hbw14.size
    replace B0 := below_on hbw14 B0
    replace Bw2 := below_on hbw14 Bw2
    replace Bw10 := below_on hbw14 Bw10
    replace Bw12 := below_on hbw14 Bw12
    replace Bw13 := below_on hbw14 Bw13
    go_wp2_with fail
    with_reducible refine (heldInt64S_any _ _ _ _ _ ((RdL.of_own (marks1_len _ _) ow10).on Bw10) pw4 (by omega) (by omega)).mono ?_
    rintro e w15 ⟨rfl, hbw15⟩
    have zw15 := hbw15.size
    replace B0 := below_on hbw15 B0
    replace Bw2 := below_on hbw15 Bw2
    replace Bw10 := below_on hbw15 Bw10
    replace Bw12 := below_on hbw15 Bw12
    replace Bw13 := below_on hbw15 Bw13
    go_wp2
    go_ret
    exact ⟨rfl, B0⟩
  · go_enter Try.func5, Try.ntmps5
    go_wp2_with fail
    have B0 : Below w.heap.size w w := Below.refl _ _
    with_reducible refine (szFeatS_no _ _ _ _ _ (by omega) (by omega) (by omega) (by omega)).mono ?_
    rintro e w' ⟨rfl, rfl⟩
    go_wp2
    go_ret
    exact ⟨rfl, B0⟩

/-! ### From the walk to the statement -/
set_option maxRecDepth 100000 in
theorem lifted (os : Os) (started : os.Started) (H : Type) (enc : TypeId × Value → H) :
    ReturnsInHanded {} Try.checked os 5 .any (Rows.fnExactInputOfSpec.pre6 enc Try.prog Try.f5 Rows.fnExactInputOfRow.domain false) (Rows.fnExactInputOfSpec.post enc Try.prog Try.f5 false true false false) := by
  refine returnsInHanded_of_change (C := Try.checked) Try.own started (by kernel_rfl) Try.func5
    (ChangeSpec.witness6 (enc := enc) (C := Try.checked) false ⟨#[], #[.slice none 0 0], []⟩ 8 (by kernel_rfl) (by kernel_rfl) (by kernel_rfl) (by kernel_rfl)) ?_
  intro W base args ds gs before hval0 hW hcnd _
  have hval : ∀ (j : Nat) t v, Try.f5.params[j]? = some t → args[j]? = some v → Value.okWide Try.prog W .any base t v := hval0
  have hW' := hW
  obtain ⟨p, q, hA0, hV, rfl, hfz, hnd⟩ := hW
  have hA : DataW.TrodAll enc Try.prog W 0 (fun _ => true) true Try.f5.params.toList args.toList ds p := hA0
  rw [Try.params5] at hA hval
  obtain ⟨v0, vs0, d0, ds0, p0, q0, hargs, rfl, rfl, h0, tr0⟩ := trodAll_cons hA
  obtain ⟨rfl, rfl, rfl⟩ := trodAll_nil tr0
  obtain rfl : args = #[v0] := by cases args; simp_all
  obtain ⟨rfl, rfl⟩ := trodVars_none hV
  have k0 := h0
  have lt0 : ∀ x ∈ p0, x.block < W.heap.size := by obtain ⟨m, hm⟩ := k0; exact DataW.trod_lt m _ _ _ hm
  obtain ⟨A0, n0, cp0, xs0, rfl, r0, g0⟩ := opFeats (hval 0 41 v0 rfl rfl) h0
  clear hA0 hval0
  refine (walk A0 n0 cp0 xs0 W r0 g0).mono fun e W' ⟨he, bel⟩ => ?_
  subst he
  exact ⟨_, rfl, _, _, _, [], _, [], hW', trodAll_mk1 (shut_bool Try.underlying4 _), (trodAll_cons_mk (Below.trod Try.laidOut (by kernel_rfl) (of_decide_eq_true (by kernel_rfl)) k0 bel lt0) trodAll_mk0), rfl, bel.frame _, fun h => by cases h⟩

theorem over : Rows.fnExactInputOfRow.holds Try.pinned (OpenSpec.ofChange Rows.fnExactInputOfSpec) :=
  OpenClaim.holds_of_wide 5 Try.f5 rfl rfl rfl rfl rfl rfl rfl ⟨rfl, rfl, rfl, rfl, rfl⟩ rfl rfl rfl rfl rfl (by kernel_rfl) Try.func5 (by kernel_rfl)
    (of_decide_eq_true (by kernel_rfl)) (by unfold Func.isWrapper; first | (rw [if_pos (by decide +kernel)]; kernel_rfl) | (rw [if_neg (by decide +kernel)]; exact ⟨rfl, rfl⟩))
    (fun os started H enc _ => lifted os started H enc)

theorem proved : Rows.FnExactInputOfSaid := over
end fnExactInputOf
end Go.Proofs.Ytadfaajdjdbonaa
