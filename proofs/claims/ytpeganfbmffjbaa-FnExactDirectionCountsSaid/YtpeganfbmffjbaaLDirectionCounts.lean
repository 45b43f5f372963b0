/- The law of DirectionCounts returns true for every input: the program's DirectionCounts and the reference's return the same. No condition: every argument that can be read. -/
import Derived.Test.YtpeganfbmffjbaaDc
import Derived.Test.YtpeganfbmffjbaaAr
import Derived.ProofKit
import Derived.Deep.RegionHeld3
import Derived.ChangeOld
namespace Go.Proofs.Ytpeganfbmffjbaa
open Go.ChangeShapes Go.WideShapes Go.ChangeAt Go.RowKit
namespace fnExactDirectionCounts
set_option linter.unusedVariables false
theorem walk (A0 : Option Addr) (n0 cp0 : Nat) (xs0 : List T3) (w : World) (r0 : RdL c3 3 w w.heap.size A0 n0 cp0 xs0) (g0 : ∀ x ∈ xs0, ok3 x) :
    Calls Try.prog 4 #[.slice A0 n0 cp0] w fun e w' => e = .returned (.bool true) ∧ Below w.heap.size w w' := by
  have m0 : n0 ≤ 9223372036854775807 := Nat.le_trans r0.cap r0.capm
  by_cases hbig : n0 ≤ 1048576
  · have h0 : n0 ≤ 1048576 := by omega
    go_enter Try.func4, Try.ntmps4
    go_wp2_with fail
    with_reducible refine (szFeatS_yes _ _ _ _ _ (by omega) (by omega) (by omega) (by omega)).mono ?_
    rintro e w' ⟨rfl, rfl⟩
    have B0 : Below w.heap.size w w := Below.refl _ _
    go_wp2_with fail
    with_reducible refine (toFeatS_any A0 n0 cp0 xs0 _ (r0.on B0) h0).mono ?_
    rintro e w1 ⟨rfl, o1, hb1⟩
    have z1 := hb1.size
    replace B0 := below_on hb1 B0
    have B1 : Below w1.heap.size w1 w1 := Below.refl _ _
    go_wp2_with fail
    with_reducible refine (sDir_any _ _ _ _ _ ((RdL.of_own r0.len o1).on B1) h0).mono ?_
    rintro e w2 ⟨A2, n2, c2, rfl, o2, l2, p2, hb2⟩
    have z2 := hb2.size
    replace B0 := below_on hb2 B0
    replace B1 := below_on hb2 B1
    have B2 : Below w2.heap.size w2 w2 := Below.refl _ _
    clear B1
    go_wp2_with fail
    with_reducible refine (toFeatS_any A0 n0 cp0 xs0 _ (r0.on B0) h0).mono ?_
    rintro e w3 ⟨rfl, o3, hb3⟩
    have z3 := hb3.size
    replace B0 := below_on hb3 B0
    replace B2 := below_on hb3 B2
    have B3 : Below w3.heap.size w3 w3 := Below.refl _ _
    go_wp2_with fail
    with_reducible refine (iDir_any _ _ _ _ _ ((RdL.of_own r0.len o3).on B3) h0).mono ?_
    rintro e w4 ⟨A4, n4, c4, rfl, o4, l4, p4, hb4⟩
    have z4 := hb4.size
    replace B0 := below_on hb4 B0
    replace B2 := below_on hb4 B2
    replace B3 := below_on hb4 B3
    have B4 : Below w4.heap.size w4 w4 := Below.refl _ _
    go_wp2_with fail
    with_reducible refine (eqInt64S_yes _ _ _ _ _ _ _ _ ((RdL.of_own l4 o4).on B4) ((RdL.of_own l2 o2).on B2) p4).mono ?_
    rintro e w5 ⟨rfl, hb5⟩
    have z5 := hb5.size
    replace B0 := below_on hb5 B0
    replace B2 := below_on hb5 B2
    replace B3 := below_on hb5 B3
    replace B4 := below_on hb5 B4
    go_wp2_with fail
    with_reducible refine (toFeatS_any A0 n0 cp0 xs0 _ (r0.on B0) h0).mono ?_
    rintro e w6 ⟨rfl, o6, hb6⟩
    have z6 := hb6.size
    replace B0 := below_on hb6 B0
    replace B2 := below_on hb6 B2
    replace B3 := below_on hb6 B3
    replace B4 := below_on hb6 B4
    have B6 : Below w6.heap.size w6 w6 := Below.refl _ _
    go_wp2_with fail
    with_reducible refine (eqFeatS_yes _ _ _ _ _ _ _ _ ((RdL.of_own r0.len o3).on B3) ((RdL.of_own r0.len o6).on B6) h0).mono ?_
    rintro e w7 ⟨rfl, hb7⟩
    have z7 := hb7.size
    replace B0 := below_on hb7 B0
    replace B2 := below_on hb7 B2
    replace B3 := below_on hb7 B3
    replace B4 := below_on hb7 B4
    replace B6 := below_on hb7 B6
    go_wp2_with fail
    with_reducible refine (markFeatS_any _ _ _ _ _ _ _ (own_below o3 B3) h0 (by omega) (by omega)).mono ?_
    rintro e w8 ⟨rfl, o8, hg8⟩
    have z8 := hg8.size
    replace B0 := B0.grown hg8 B0.size (fun q hq => by have := (o3).lt q hq; omega)
    replace B2 := B2.grown hg8 B2.size (fun q hq => by have := (o3).lt q hq; omega)
    have o8G := (own_below o4 B4).kept hg8 (own_ne o4 (fun q hq => by have := (o3).lt q hq; omega))
    clear B3
    clear B4
    clear B6
    have B8 : Below w8.heap.size w8 w8 := Below.refl _ _
    go_wp2_with fail
    with_reducible refine (eqInt64S_yes _ _ _ _ _ _ _ _ ((RdL.of_own l4 o8G).on B8) ((RdL.of_own l2 o2).on B2) p4).mono ?_
    rintro e w9 ⟨rfl, hb9⟩
    have z9 := hb9.size
    replace B0 := below_on hb9 B0
    replace B2 := below_on hb9 B2
    replace B8 := below_on hb9 B8
    go_wp2_with fail
    with_reducible refine (markInt64S_any _ _ _ _ _ _ _ (own_below o8G B8) p4 (by omega) (by omega)).mono ?_
    rintro e w10 ⟨rfl, o10, hg10⟩
    have z10 := hg10.size
    replace B0 := B0.grown hg10 B0.size (fun q hq => by have := (o8G).lt q hq; omega)
    replace B2 := B2.grown hg10 B2.size (fun q hq => by have := (o8G).lt q hq; omega)
    clear B8
    have B10 : Below w10.heap.size w10 w10 := Below.refl _ _
    go_wp2_with fail
    with_reducible refine (heldInt64S_any _ _ _ _ _ ((RdL.of_own (marks1_len _ _) o10).on B10) p4 (by omega) (by omega)).mono ?_
    rintro e w11 ⟨rfl, hb11⟩
    have z11 := hb11.size
    replace B0 := below_on hb11 B0
    replace B2 := below_on hb11 B2
    replace B10 := below_on hb11 B10
    go_wp2_with fail
    with_reducible refine (toFeatS_any A0 n0 cp0 xs0 _ (r0.on B0) h0).mono ?_
    rintro e w12 ⟨rfl, o12, hb12⟩
    have z12 := hb12.size
    replace B0 := below_on hb12 B0
    replace B2 := below_on hb12 B2
    replace B10 := below_on hb12 B10
    have B12 : Below w12.heap.size w12 w12 := Below.refl _ _
    go_wp2_with fail
    with_reducible refine (iDir_any _ _ _ _ _ ((RdL.of_own r0.len o12).on B12) h0).mono ?_
    rintro e w13 ⟨A13, n13, c13, rfl, o13, l13, p13, hb13⟩
    have z13 := hb13.size
    replace B0 := below_on hb13 B0
    replace B2 := below_on hb13 B2
    replace B10 := below_on hb13 B10
    replace B12 := below_on hb13 B12
    have B13 : Below w13.heap.size w13 w13 := Below.refl _ _
    go_wp2_with fail
    with_reducible refine (eqInt64S_yes _ _ _ _ _ _ _ _ ((RdL.of_own l13 o13).on B13) ((RdL.of_own l2 o2).on B2) p13).mono ?_
    rintro e w14 ⟨rfl, hb14⟩
    have z14 := hb14.size
    replace B0 := below_on hb14 B0
    replace B2 := below_on hb14 B2
    replace B10 := below_on hb14 B10
    replace B12 := below_on hb14 B12
    replace B13 := below_on hb14 B13
    go_wp2_with fail
    with_reducible refine (heldInt64S_any _ _ _ _ _ ((RdL.of_own (marks1_len _ _) o10).on B10) p4 (by omega) (by omega)).mono ?_
    rintro e w15 ⟨rfl, hb15⟩
    have z15 := hb15.size
    replace B0 := below_on hb15 B0
    replace B2 := below_on hb15 B2
    replace B10 := below_on hb15 B10
    replace B12 := below_on hb15 B12
    replace B13 := below_on hb15 B13
    go_wp2
    go_ret
    exact ⟨rfl, B0⟩
  · go_enter Try.func4, Try.ntmps4
    go_wp2_with fail
    with_reducible refine (szFeatS_no _ _ _ _ _ (by omega) (by omega) (by omega) (by omega)).mono ?_
    rintro e w' ⟨rfl, rfl⟩
    go_wp2
    go_ret
    exact ⟨rfl, Below.refl _ _⟩

/-! ### From the walk to the statement -/
set_option maxRecDepth 100000 in
theorem lifted (os : Os) (started : os.Started) (H : Type) (enc : TypeId × Value → H) :
    ReturnsInHanded {} Try.checked os 4 .any (Rows.fnExactDirectionCountsSpec.pre6 enc Try.prog Try.f4 Rows.fnExactDirectionCountsRow.domain false) (Rows.fnExactDirectionCountsSpec.post enc Try.prog Try.f4 false true false false) := by
  refine returnsInHanded_of_change (C := Try.checked) Try.own started (by kernel_rfl) Try.func4
    (ChangeSpec.witness6 (enc := enc) (C := Try.checked) false ⟨#[], #[.slice none 0 0], []⟩ 8 (by kernel_rfl) (by kernel_rfl) (by kernel_rfl) (by kernel_rfl)) ?_
  intro W base args ds gs before hval0 hW hcnd _
  have hval : ∀ (j : Nat) t v, Try.f4.params[j]? = some t → args[j]? = some v → Value.okWide Try.prog W .any base t v := hval0
  have hW' := hW
  obtain ⟨p, q, hA0, hV, rfl, hfz, hnd⟩ := hW
  have hA : DataW.TrodAll enc Try.prog W 0 (fun _ => true) true Try.f4.params.toList args.toList ds p := hA0
  rw [Try.params4] at hA hval
  obtain ⟨v0, vs0, d0, ds0, p0, q0, hargs, rfl, rfl, h0, tr0⟩ := trodAll_cons hA
  obtain ⟨rfl, rfl, rfl⟩ := trodAll_nil tr0
  obtain rfl : args = #[v0] := by cases args; simp_all
  obtain ⟨rfl, rfl⟩ := trodVars_none hV
  have k0 := h0
  have lt0 : ∀ x ∈ p0, x.block < W.heap.size := by obtain ⟨m, hm⟩ := k0; exact DataW.trod_lt m _ _ _ hm
  obtain ⟨A0, n0, cp0, xs0, rfl, r0, g0⟩ := opFeats (hval 0 22 v0 rfl rfl) h0
  clear hA0 hval0
  refine (walk A0 n0 cp0 xs0 W r0 g0).mono fun e W' ⟨he, bel⟩ => ?_
  subst he
  exact ⟨_, rfl, _, _, _, [], _, [], hW', trodAll_mk1 (shut_bool Try.underlying4 _), (trodAll_cons_mk (Below.trod Try.laidOut (by kernel_rfl) (of_decide_eq_true (by kernel_rfl)) k0 bel lt0) trodAll_mk0), rfl, bel.frame _, fun h => by cases h⟩

theorem over : Rows.fnExactDirectionCountsRow.holds Try.pinned (OpenSpec.ofChange Rows.fnExactDirectionCountsSpec) :=
  OpenClaim.holds_of_wide 4 Try.f4 rfl rfl rfl rfl rfl rfl rfl ⟨rfl, rfl, rfl, rfl, rfl⟩ rfl rfl rfl rfl rfl (by kernel_rfl) Try.func4 (by kernel_rfl)
    (of_decide_eq_true (by kernel_rfl)) (by unfold Func.isWrapper; first | (rw [if_pos (by decide +kernel)]; kernel_rfl) | (rw [if_neg (by decide +kernel)]; exact ⟨rfl, rfl⟩))
    (fun os started H enc _ => lifted os started H enc)

theorem proved : Rows.FnExactDirectionCountsSaid := over
end fnExactDirectionCounts
end Go.Proofs.Ytpeganfbmffjbaa
