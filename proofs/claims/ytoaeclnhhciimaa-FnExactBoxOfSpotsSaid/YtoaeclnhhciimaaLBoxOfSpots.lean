/- The law of BoxOfSpots returns true for every input: the program's BoxOfSpots and the reference's return the same. No condition: every argument that can be read. -/
import Derived.Test.YtoaeclnhhciimaaBo
import Derived.Test.YtoaeclnhhciimaaBs
import Derived.Test.YtoaeclnhhciimaaAr
import Derived.ProofKit
import Derived.Deep.RegionHeld3
import Derived.ChangeOld
namespace Go.Proofs.Ytoaeclnhhciimaa
open Go.ChangeShapes Go.WideShapes Go.ChangeAt Go.RowKit
namespace fnExactBoxOfSpots
set_option linter.unusedVariables false
theorem walk (A0 : Option Addr) (n0 cp0 : Nat) (xs0 : List T2) (w : World) (r0 : RdL c2 2 w w.heap.size A0 n0 cp0 xs0) (g0 : ∀ x ∈ xs0, ok2 x) :
    Calls Try.prog 4 #[.slice A0 n0 cp0] w fun e w' => e = .returned (.bool true) ∧ Below w.heap.size w w' := by
  have m0 : n0 ≤ 9223372036854775807 := Nat.le_trans r0.cap r0.capm
  by_cases hbig : n0 ≤ 1048576
  · have h0 : n0 ≤ 1048576 := by omega
    go_enter Try.func4, Try.ntmps4
    go_wp2_with fail
    with_reducible refine (szSpotS_yes _ _ _ _ _ (by omega) (by omega) (by omega) (by omega)).mono ?_
    rintro e w' ⟨rfl, rfl⟩
    have B0 : Below w.heap.size w w := Below.refl _ _
    go_wp2_with fail
    with_reducible refine (toSpotS_any A0 n0 cp0 xs0 _ (r0.on B0) h0).mono ?_
    rintro e w1 ⟨rfl, o1, hb1⟩
    have z1 := hb1.size
    replace B0 := below_on hb1 B0
    have B1 : Below w1.heap.size w1 w1 := Below.refl _ _
    go_wp2_with fail
    with_reducible refine (sBox_any _ _ _ _ _ ((RdL.of_own r0.len o1).on B1) h0).mono ?_
    rintro e w2 ⟨rfl, hb2⟩
    have z2 := hb2.size
    replace B0 := below_on hb2 B0
    replace B1 := below_on hb2 B1
    go_wp2_with fail
    generalize hW3 : w2.alloc (.cells #[.int .i64 (boxV xs0).1, .int .i64 (boxV xs0).2.1, .int .i64 (boxV xs0).2.2.1, .int .i64 (boxV xs0).2.2.2] 34) = w3
    have hb3 : Below w2.heap.size w2 w3 := by rw [← hW3]; exact (Below.refl _ _).alloc (Nat.le_refl _) _
    have C3 : Cell4 w3 w2.heap.size (boxV xs0).1 (boxV xs0).2.1 (boxV xs0).2.2.1 (boxV xs0).2.2.2 := by rw [← hW3]; exact Cell4.new _ _ _ _ _ _
    clear hW3
    have z3 := hb3.size
    replace B0 := below_on hb3 B0
    replace B1 := below_on hb3 B1
    have B3 : Below w3.heap.size w3 w3 := Below.refl _ _
    clear B1
    go_wp2_with fail
    with_reducible refine (toSpotS_any A0 n0 cp0 xs0 _ (r0.on B0) h0).mono ?_
    rintro e w4 ⟨rfl, o4, hb4⟩
    have z4 := hb4.size
    replace B0 := below_on hb4 B0
    replace B3 := below_on hb4 B3
    have B4 : Below w4.heap.size w4 w4 := Below.refl _ _
    go_wp2_with fail
    with_reducible refine (iBox_any _ _ _ _ _ ((RdL.of_own r0.len o4).on B4) h0).mono ?_
    rintro e w5 ⟨rfl, hb5⟩
    have z5 := hb5.size
    replace B0 := below_on hb5 B0
    replace B3 := below_on hb5 B3
    replace B4 := below_on hb5 B4
    obtain ⟨q0, q1, q2, q3⟩ := (C3.on B3).on ((Below.refl _ _).alloc (Nat.le_refl _) (.cells #[.int .i64 (boxV xs0).1, .int .i64 (boxV xs0).2.1, .int .i64 (boxV xs0).2.2.1, .int .i64 (boxV xs0).2.2.2] 34))
    go_wp2_with fail
    clear q0 q1 q2 q3
    generalize hW6 : w5.alloc (.cells #[.int .i64 (boxV xs0).1, .int .i64 (boxV xs0).2.1, .int .i64 (boxV xs0).2.2.1, .int .i64 (boxV xs0).2.2.2] 34) = w6
    have hb6 : Below w5.heap.size w5 w6 := by rw [← hW6]; exact (Below.refl _ _).alloc (Nat.le_refl _) _
    have C6 : Cell4 w6 w5.heap.size (boxV xs0).1 (boxV xs0).2.1 (boxV xs0).2.2.1 (boxV xs0).2.2.2 := by rw [← hW6]; exact Cell4.new _ _ _ _ _ _
    clear hW6
    have z6 := hb6.size
    replace B0 := below_on hb6 B0
    replace B3 := below_on hb6 B3
    replace B4 := below_on hb6 B4
    have B6 : Below w6.heap.size w6 w6 := Below.refl _ _
    with_reducible refine (eqBox_same _ _ _ _ _ ).mono ?_
    rintro e w7 ⟨rfl, hb7⟩
    have z7 := hb7.size
    replace B0 := below_on hb7 B0
    replace B3 := below_on hb7 B3
    replace B4 := below_on hb7 B4
    replace B6 := below_on hb7 B6
    go_wp2_with fail
    with_reducible refine (toSpotS_any A0 n0 cp0 xs0 _ (r0.on B0) h0).mono ?_
    rintro e w8 ⟨rfl, o8, hb8⟩
    have z8 := hb8.size
    replace B0 := below_on hb8 B0
    replace B3 := below_on hb8 B3
    replace B4 := below_on hb8 B4
    replace B6 := below_on hb8 B6
    have B8 : Below w8.heap.size w8 w8 := Below.refl _ _
    go_wp2_with fail
    with_reducible refine (eqSpotS_yes _ _ _ _ _ _ _ _ ((RdL.of_own r0.len o4).on B4) ((RdL.of_own r0.len o8).on B8) h0).mono ?_
    rintro e w9 ⟨rfl, hb9⟩
    have z9 := hb9.size
    replace B0 := below_on hb9 B0
    replace B3 := below_on hb9 B3
    replace B4 := below_on hb9 B4
    replace B6 := below_on hb9 B6
    replace B8 := below_on hb9 B8
    go_wp2
    go_ret
    exact ⟨rfl, B0⟩
  · go_enter Try.func4, Try.ntmps4
    go_wp2_with fail
    with_reducible refine (szSpotS_no _ _ _ _ _ (by omega) (by omega) (by omega) (by omega)).mono ?_
    rintro e w' ⟨rfl, rfl⟩
    go_wp2
    go_ret
    exact ⟨rfl, Below.refl _ _⟩

/-! ### From the walk to the statement -/
set_option maxRecDepth 100000 in
theorem lifted (os : Os) (started : os.Started) (H : Type) (enc : TypeId × Value → H) :
    ReturnsInHanded {} Try.checked os 4 .any (Rows.fnExactBoxOfSpotsSpec.pre6 enc Try.prog Try.f4 Rows.fnExactBoxOfSpotsRow.domain false) (Rows.fnExactBoxOfSpotsSpec.post enc Try.prog Try.f4 false true false false) := by
  refine returnsInHanded_of_change (C := Try.checked) Try.own started (by kernel_rfl) Try.func4
    (ChangeSpec.witness6 (enc := enc) (C := Try.checked) false ⟨#[], #[.slice none 0 0], []⟩ 8 (by kernel_rfl) (by kernel_rfl) (by kernel_rfl) (by kernel_rfl)) ?_
  intro W base args ds gs before hval0 hW hcnd _
  have hval : ∀ (j : Nat) t v, Try.f4.params[j]? = some t → args[j]? = some v → Value.okWide Try.prog W .any base t v := hval0
  have hW' := hW
  obtain ⟨p, q, hA0, hV, rfl, hfz, hnd⟩ := hW
  have hA : DataW.TrodAll enc Try.prog W 0 (fun _ => true) true Try.f4.params.toList args.toList ds p := hA0
  rw [Try.params4] at hA hval
  obtain ⟨v0, vs0, d0, ds0, p0, q0, hargs, rfl, rfl, h0, tr0⟩ := trodAll_cons hA
  obtain ⟨rfl, rfl, rfl⟩ := trodAll_nil tr0
  obtain rfl : args = #[v0] := by cases args; simp_all
  obtain ⟨rfl, rfl⟩ := trodVars_none hV
  have k0 := h0
  have lt0 : ∀ x ∈ p0, x.block < W.heap.size := by obtain ⟨m, hm⟩ := k0; exact DataW.trod_lt m _ _ _ hm
  obtain ⟨A0, n0, cp0, xs0, rfl, r0, g0⟩ := opSpots (hval 0 31 v0 rfl rfl) h0
  clear hA0 hval0
  refine (walk A0 n0 cp0 xs0 W r0 g0).mono fun e W' ⟨he, bel⟩ => ?_
  subst he
  exact ⟨_, rfl, _, _, _, [], _, [], hW', trodAll_mk1 (shut_bool Try.underlying4 _), (trodAll_cons_mk (Below.trod Try.laidOut (by kernel_rfl) (of_decide_eq_true (by kernel_rfl)) k0 bel lt0) trodAll_mk0), rfl, bel.frame _, fun h => by cases h⟩

theorem over : Rows.fnExactBoxOfSpotsRow.holds Try.pinned (OpenSpec.ofChange Rows.fnExactBoxOfSpotsSpec) :=
  OpenClaim.holds_of_wide 4 Try.f4 rfl rfl rfl rfl rfl rfl rfl ⟨rfl, rfl, rfl, rfl, rfl⟩ rfl rfl rfl rfl rfl (by kernel_rfl) Try.func4 (by kernel_rfl)
    (of_decide_eq_true (by kernel_rfl)) (by unfold Func.isWrapper; first | (rw [if_pos (by decide +kernel)]; kernel_rfl) | (rw [if_neg (by decide +kernel)]; exact ⟨rfl, rfl⟩))
    (fun os started H enc _ => lifted os started H enc)

theorem proved : Rows.FnExactBoxOfSpotsSaid := over
end fnExactBoxOfSpots
end Go.Proofs.Ytoaeclnhhciimaa
