/- The law of ValidPath returns true for every input: the program's ValidPath and the reference's return the same. No condition: every argument that can be read. -/
import Derived.Test.YtpelphiboknmdaaPt
import Derived.Test.YtpelphiboknmdaaAr
import Derived.ProofKit
import Derived.Deep.RegionHeld3
import Derived.ChangeOld
namespace Go.Proofs.Ytpelphiboknmdaa
open Go.ChangeShapes Go.WideShapes Go.ChangeAt Go.RowKit
namespace fnExactValidPath
set_option linter.unusedVariables false
theorem walk (A0 : Option Addr) (n0 cp0 : Nat) (xs0 : List T2) (a1 : Int) (a2 : Int) (a3 : Int) (w : World) (r0 : RdL c2 2 w w.heap.size A0 n0 cp0 xs0) (g0 : ∀ x ∈ xs0, ok2 x) (g1 : I64 a1) (g2 : I64 a2) (g3 : I64 a3) :
    Calls Try.prog 8 #[.slice A0 n0 cp0, .int .i64 a1, .int .i64 a2, .int .i64 a3] w fun e w' => e = .returned (.bool true) ∧ Below w.heap.size w w' := by
  have m0 : n0 ≤ 9223372036854775807 := Nat.le_trans r0.cap r0.capm
  by_cases hbig : n0 ≤ 1048576
  · have h0 : n0 ≤ 1048576 := by omega
    go_enter Try.func8, Try.ntmps8
    go_wp2_with fail
    with_reducible refine (szPairS_yes _ _ _ _ _ (by omega) (by omega) (by omega) (by omega)).mono ?_
    rintro e w' ⟨rfl, rfl⟩
    have B0 : Below w.heap.size w w := Below.refl _ _
    go_wp2_with fail
    with_reducible refine (toPairS_any A0 n0 cp0 xs0 _ (r0.on B0) h0).mono ?_
    rintro e w1 ⟨rfl, o1, hb1⟩
    have z1 := hb1.size
    replace B0 := below_on hb1 B0
    have B1 : Below w1.heap.size w1 w1 := Below.refl _ _
    go_wp2_with fail
    with_reducible refine (sValidPath_any _ _ _ _ _ _ _ _ ((RdL.of_own r0.len o1).on B1) h0 g0 g1 g2 g3).mono ?_
    rintro e w2 ⟨rfl, hb2⟩
    have z2 := hb2.size
    replace B0 := below_on hb2 B0
    replace B1 := below_on hb2 B1
    clear B1
    go_wp2_with fail
    with_reducible refine (toPairS_any A0 n0 cp0 xs0 _ (r0.on B0) h0).mono ?_
    rintro e w3 ⟨rfl, o3, hb3⟩
    have z3 := hb3.size
    replace B0 := below_on hb3 B0
    have B3 : Below w3.heap.size w3 w3 := Below.refl _ _
    go_wp2_with fail
    with_reducible refine (iPath_any _ _ _ _ _ _ _ _ ((RdL.of_own r0.len o3).on B3) h0).mono ?_
    rintro e w4 ⟨rfl, hb4⟩
    have z4 := hb4.size
    replace B0 := below_on hb4 B0
    replace B3 := below_on hb4 B3
    go_wp2_with fail
    with_reducible refine (toPairS_any A0 n0 cp0 xs0 _ (r0.on B0) h0).mono ?_
    rintro e w5 ⟨rfl, o5, hb5⟩
    have z5 := hb5.size
    replace B0 := below_on hb5 B0
    replace B3 := below_on hb5 B3
    have B5 : Below w5.heap.size w5 w5 := Below.refl _ _
    go_wp2_with fail
    with_reducible refine (eqPairS_yes _ _ _ _ _ _ _ _ ((RdL.of_own r0.len o3).on B3) ((RdL.of_own r0.len o5).on B5) h0).mono ?_
    rintro e w6 ⟨rfl, hb6⟩
    have z6 := hb6.size
    replace B0 := below_on hb6 B0
    replace B3 := below_on hb6 B3
    replace B5 := below_on hb6 B5
    go_wp2
    go_ret
    exact ⟨rfl, B0⟩
  · go_enter Try.func8, Try.ntmps8
    go_wp2_with fail
    with_reducible refine (szPairS_no _ _ _ _ _ (by omega) (by omega) (by omega) (by omega)).mono ?_
    rintro e w' ⟨rfl, rfl⟩
    go_wp2
    go_ret
    exact ⟨rfl, Below.refl _ _⟩

/-! ### From the walk to the statement -/
set_option maxRecDepth 100000 in
theorem lifted (os : Os) (started : os.Started) (H : Type) (enc : TypeId × Value → H) :
    ReturnsInHanded {} Try.checked os 8 .any (Rows.fnExactValidPathSpec.pre6 enc Try.prog Try.f8 Rows.fnExactValidPathRow.domain false) (Rows.fnExactValidPathSpec.post enc Try.prog Try.f8 false true false false) := by
  refine returnsInHanded_of_change (C := Try.checked) Try.own started (by kernel_rfl) Try.func8
    (ChangeSpec.witness6 (enc := enc) (C := Try.checked) false ⟨#[], #[.slice none 0 0, .int .i64 0, .int .i64 0, .int .i64 0], []⟩ 8 (by kernel_rfl) (by kernel_rfl) (by kernel_rfl) (by kernel_rfl)) ?_
  intro W base args ds gs before hval0 hW hcnd _
  have hval : ∀ (j : Nat) t v, Try.f8.params[j]? = some t → args[j]? = some v → Value.okWide Try.prog W .any base t v := hval0
  have hW' := hW
  obtain ⟨p, q, hA0, hV, rfl, hfz, hnd⟩ := hW
  have hA : DataW.TrodAll enc Try.prog W 0 (fun _ => true) true Try.f8.params.toList args.toList ds p := hA0
  rw [Try.params8] at hA hval
  obtain ⟨v0, vs0, d0, ds0, p0, q0, hargs, rfl, rfl, h0, tr0⟩ := trodAll_cons hA
  obtain ⟨v1, vs1, d1, ds1, p1, q1, rfl, rfl, rfl, h1, tr1⟩ := trodAll_cons tr0
  obtain ⟨v2, vs2, d2, ds2, p2, q2, rfl, rfl, rfl, h2, tr2⟩ := trodAll_cons tr1
  obtain ⟨v3, vs3, d3, ds3, p3, q3, rfl, rfl, rfl, h3, tr3⟩ := trodAll_cons tr2
  obtain ⟨rfl, rfl, rfl⟩ := trodAll_nil tr3
  obtain rfl : args = #[v0, v1, v2, v3] := by cases args; simp_all
  obtain ⟨rfl, rfl⟩ := trodVars_none hV
  have k0 := h0
  have lt0 : ∀ x ∈ p0, x.block < W.heap.size := by obtain ⟨m, hm⟩ := k0; exact DataW.trod_lt m _ _ _ hm
  obtain ⟨A0, n0, cp0, xs0, rfl, r0, g0⟩ := opPairs (hval 0 39 v0 rfl rfl) h0
  have k1 := h1
  have lt1 : ∀ x ∈ p1, x.block < W.heap.size := by obtain ⟨m, hm⟩ := k1; exact DataW.trod_lt m _ _ _ hm
  obtain ⟨a1, rfl, g1⟩ := opI64 (hval 1 2 v1 rfl rfl) h1
  have k2 := h2
  have lt2 : ∀ x ∈ p2, x.block < W.heap.size := by obtain ⟨m, hm⟩ := k2; exact DataW.trod_lt m _ _ _ hm
  obtain ⟨a2, rfl, g2⟩ := opI64 (hval 2 2 v2 rfl rfl) h2
  have k3 := h3
  have lt3 : ∀ x ∈ p3, x.block < W.heap.size := by obtain ⟨m, hm⟩ := k3; exact DataW.trod_lt m _ _ _ hm
  obtain ⟨a3, rfl, g3⟩ := opI64 (hval 3 2 v3 rfl rfl) h3
  clear hA0 hval0
  refine (walk A0 n0 cp0 xs0 a1 a2 a3 W r0 g0 g1 g2 g3).mono fun e W' ⟨he, bel⟩ => ?_
  subst he
  exact ⟨_, rfl, _, _, _, [], _, [], hW', trodAll_mk1 (shut_bool Try.underlying4 _), (trodAll_cons_mk (Below.trod Try.laidOut (by kernel_rfl) (of_decide_eq_true (by kernel_rfl)) k0 bel lt0) (trodAll_cons_mk (Below.trod Try.laidOut (by kernel_rfl) (of_decide_eq_true (by kernel_rfl)) k1 bel lt1) (trodAll_cons_mk (Below.trod Try.laidOut (by kernel_rfl) (of_decide_eq_true (by kernel_rfl)) k2 bel lt2) (trodAll_cons_mk (Below.trod Try.laidOut (by kernel_rfl) (of_decide_eq_true (by kernel_rfl)) k3 bel lt3) trodAll_mk0)))), rfl, bel.frame _, fun h => by cases h⟩

theorem over : Rows.fnExactValidPathRow.holds Try.pinned (OpenSpec.ofChange Rows.fnExactValidPathSpec) :=
  OpenClaim.holds_of_wide 8 Try.f8 rfl rfl rfl rfl rfl rfl rfl ⟨rfl, rfl, rfl, rfl, rfl⟩ rfl rfl rfl rfl rfl (by kernel_rfl) Try.func8 (by kernel_rfl)
    (of_decide_eq_true (by kernel_rfl)) (by unfold Func.isWrapper; first | (rw [if_pos (by decide +kernel)]; kernel_rfl) | (rw [if_neg (by decide +kernel)]; exact ⟨rfl, rfl⟩))
    (fun os started H enc _ => lifted os started H enc)

theorem proved : Rows.FnExactValidPathSaid := over
end fnExactValidPath
end Go.Proofs.Ytpelphiboknmdaa
