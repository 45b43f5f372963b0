/- The law of CenterOf returns true for every input: the program's CenterOf and the reference's return the same. No condition: every argument that can be read. -/
import Derived.Test.YtpmaiklooapnfaaCt
import Derived.Test.YtpmaiklooapnfaaFlSpot
import Derived.Test.YtpmaiklooapnfaaGn
import Derived.Test.YtpmaiklooapnfaaAr
import Derived.ProofKit
import Derived.Deep.RegionHeld3
import Derived.ChangeOld
namespace Go.Proofs.Ytpmaiklooapnfaa
open Go.ChangeShapes Go.WideShapes Go.ChangeAt Go.RowKit
namespace fnExactCenterOf
set_option linter.unusedVariables false
theorem walk (A0 : Option Addr) (n0 cp0 : Nat) (xs0 : List (List T3)) (w : World) (r0 : NL w w.heap.size A0 n0 cp0 xs0) (g0 : ∀ x ∈ xs0, ∀ q ∈ x, ok3 q) :
    Calls Try.prog 7 #[.agg #[.slice A0 n0 cp0]] w fun e w' => e = .returned (.bool true) ∧ Below w.heap.size w w' := by
  have m0 : n0 ≤ 9223372036854775807 := Nat.le_trans r0.cap r0.capm
  by_cases hbig : totL xs0 ≤ 1048576
  · have htotL_xs0 : totL xs0 ≤ 1048576 := by omega
    go_enter Try.func7, Try.ntmps7
    go_wp2_with fail
    have B0 : Below w.heap.size w (w.alloc (.cells #[.slice A0 n0 cp0] 45)) := (by repeat (first | exact Below.refl _ _ | assumption | refine Below.drew ?_ | refine below_drewN ?_ _ | refine Below.alloc ?_ (by first | omega | (simp <;> omega)) _ | refine Below.setCell ?_ (by first | omega | (simp <;> omega)) _))
    have P0 : Blk (w.alloc (.cells #[.slice A0 n0 cp0] 45)) (w.heap.size) 45 #[.slice A0 n0 cp0] := by have hk := Blk.new w 45 #[.slice A0 n0 cp0]; simpa using hk
    generalize (w.alloc (.cells #[.slice A0 n0 cp0] 45)) = v at *
    have Bv : Below v.heap.size v v := Below.refl _ _
    have zv := B0.size
    with_reducible refine (szInk_yes _ _ _ xs0 _ _ (r0.on B0) (by omega) (by omega) (by omega)).mono ?_
    rintro e w1 ⟨rfl, hbw1⟩
    have zw1 := hbw1.size
    replace B0 := below_on hbw1 B0
    replace Bv := below_on hbw1 Bv
    have hzl : (0 : Int) ≤ 1048576 - (totL xs0 : Int) := by omega
    have kk0 := (P0.on Bv)
    have kc0_0 := kk0.cell 0
    simp only [List.getElem?_toArray, List.getElem?_cons_zero] at kc0_0
    have kz0 := kk0.lt
    go_wp2_with fail
    clear kk0 kz0 kc0_0
    with_reducible refine (toInk_any A0 n0 cp0 xs0 _ (r0.on B0) htotL_xs0).mono ?_
    rintro e w2 ⟨qw2, sw2, rfl, ow2, lw2, uw2, hbw2⟩
    have zw2 := hbw2.size
    replace B0 := below_on hbw2 B0
    replace Bv := below_on hbw2 Bv
    have Bw2 : Below w2.heap.size w2 w2 := Below.refl _ _
    go_wp2_with fail
    with_reducible refine (sCenter_any _ _ _ xs0 _ ((nl_own ow2 lw2 r0.len uw2).on Bw2) htotL_xs0).mono ?_
    rintro e w3 ⟨rfl, hbw3⟩
    have zw3 := hbw3.size
    replace B0 := below_on hbw3 B0
    replace Bv := below_on hbw3 Bv
    replace Bw2 := below_on hbw3 Bw2
    clear Bw2
    have kk0 := (P0.on Bv)
    have kc0_0 := kk0.cell 0
    simp only [List.getElem?_toArray, List.getElem?_cons_zero] at kc0_0
    have kz0 := kk0.lt
    go_wp2_with fail
    clear kk0 kz0 kc0_0
    generalize hW : w3.alloc (.cells #[.int .i64 (ctV xs0).1, .int .i64 (ctV xs0).2] 38) = w4
    have hbw4 : Below w3.heap.size w3 w4 := by rw [← hW]; exact (Below.refl _ _).alloc (Nat.le_refl _) _
    have Jw4 : Blk w4 w3.heap.size 38 #[.int .i64 (ctV xs0).1, .int .i64 (ctV xs0).2] := by rw [← hW]; exact Blk.new _ _ _
    clear hW
    have zw4 := hbw4.size
    replace B0 := below_on hbw4 B0
    replace Bv := below_on hbw4 Bv
    have Bw4 : Below w4.heap.size w4 w4 := Below.refl _ _
    with_reducible refine (toInk_any A0 n0 cp0 xs0 _ (r0.on B0) htotL_xs0).mono ?_
    rintro e w5 ⟨qw5, sw5, rfl, ow5, lw5, uw5, hbw5⟩
    have zw5 := hbw5.size
    replace B0 := below_on hbw5 B0
    replace Bv := below_on hbw5 Bv
    replace Bw4 := below_on hbw5 Bw4
    have Bw5 : Below w5.heap.size w5 w5 := Below.refl _ _
    go_wp2_with fail
    generalize hW : w5.alloc (.cells #[.slice (some ⟨qw5, 0, none⟩) n0 n0] 51) = w6
    have hbw6 : Below w5.heap.size w5 w6 := by rw [← hW]; exact (Below.refl _ _).alloc (Nat.le_refl _) _
    have Jw6 : Blk w6 w5.heap.size 51 #[.slice (some ⟨qw5, 0, none⟩) n0 n0] := by rw [← hW]; exact Blk.new _ _ _
    clear hW
    have zw6 := hbw6.size
    replace B0 := below_on hbw6 B0
    replace Bv := below_on hbw6 Bv
    replace Bw4 := below_on hbw6 Bw4
    replace Bw5 := below_on hbw6 Bw5
    have Bw6 : Below w6.heap.size w6 w6 := Below.refl _ _
    have kk0 := (Jw6.on Bw6)
    have kc0_0 := kk0.cell 0
    simp only [List.getElem?_toArray, List.getElem?_cons_zero] at kc0_0
    have kz0 := kk0.lt
    go_wp2_with fail
    clear kk0 kz0 kc0_0
    with_reducible refine (iCenter_any _ _ _ xs0 _ ((nl_own ow5 lw5 r0.len uw5).on Bw5) htotL_xs0).mono ?_
    rintro e w7 ⟨rfl, hbw7⟩
    have zw7 := hbw7.size
    replace B0 := below_on hbw7 B0
    replace Bv := below_on hbw7 Bv
    replace Bw4 := below_on hbw7 Bw4
    replace Bw5 := below_on hbw7 Bw5
    replace Bw6 := below_on hbw7 Bw6
    have kk0 := (Jw4.on Bw4)
    have kc0_0 := kk0.cell 0
    have kc0_1 := kk0.cell 1
    simp only [List.getElem?_toArray, List.getElem?_cons_succ, List.getElem?_cons_zero] at kc0_0 kc0_1
    have kz0 := kk0.lt
    go_wp2_with fail
    clear kk0 kz0 kc0_0 kc0_1
    generalize hW : w7.alloc (.cells #[.int .i64 (ctV xs0).1, .int .i64 (ctV xs0).2] 38) = w8
    have hbw8 : Below w7.heap.size w7 w8 := by rw [← hW]; exact (Below.refl _ _).alloc (Nat.le_refl _) _
    have Jw8 : Blk w8 w7.heap.size 38 #[.int .i64 (ctV xs0).1, .int .i64 (ctV xs0).2] := by rw [← hW]; exact Blk.new _ _ _
    clear hW
    have zw8 := hbw8.size
    replace B0 := below_on hbw8 B0
    replace Bv := below_on hbw8 Bv
    replace Bw4 := below_on hbw8 Bw4
    replace Bw5 := below_on hbw8 Bw5
    replace Bw6 := below_on hbw8 Bw6
    have Bw8 : Below w8.heap.size w8 w8 := Below.refl _ _
    with_reducible refine (eqSpot_same _ _ _ ).mono ?_
    rintro e w9 ⟨rfl, hbw9⟩
    have zw9 := hbw9.size
    replace B0 := below_on hbw9 B0
    replace Bv := below_on hbw9 Bv
    replace Bw4 := below_on hbw9 Bw4
    replace Bw5 := below_on hbw9 Bw5
    replace Bw6 := below_on hbw9 Bw6
    replace Bw8 := below_on hbw9 Bw8
    have kk0 := (P0.on Bv)
    have kc0_0 := kk0.cell 0
    simp only [List.getElem?_toArray, List.getElem?_cons_zero] at kc0_0
    have kz0 := kk0.lt
    have kk1 := (Jw6.on Bw6)
    have kc1_0 := kk1.cell 0
    simp only [List.getElem?_toArray, List.getElem?_cons_zero] at kc1_0
    have kz1 := kk1.lt
    go_wp2_with fail
    replace B0 := Below.drew B0
    replace Bv := Below.drew Bv
    replace Bw4 := Below.drew Bw4
    replace Bw5 := Below.drew Bw5
    replace Bw6 := Below.drew Bw6
    replace Bw8 := Below.drew Bw8
    go_region_held3 (fun w' => (∀ b o, b < w9.heap.size → w'.cell? ⟨b, o, none⟩ = w9.cell? ⟨b, o, none⟩) ∧ Below w9.heap.size w9 w') (first | exact sk (Below.refl _ _).drew | (go_split_ands; first | exact sk (below_app ‹_› hbw10 (Below.size ‹_›)) | exact sk (below_app ‹_› hbw11 (Below.size ‹_›)))) (first | (go_at_call 28; with_reducible refine (toInk_any A0 n0 cp0 xs0 _ (r0.on B0) htotL_xs0).mono ?_; rintro e w10 ⟨qw10, sw10, rfl, ow10, lw10, uw10, hbw10⟩; have zw10 := hbw10.size; rw [hs_drew] at zw10; replace B0 := below_on hbw10 B0; replace Bv := below_on hbw10 Bv; replace Bw4 := below_on hbw10 Bw4; replace Bw5 := below_on hbw10 Bw5; replace Bw6 := below_on hbw10 Bw6; replace Bw8 := below_on hbw10 Bw8; have Bw10 : Below w10.heap.size w10 w10 := Below.refl _ _) | (go_at_call 30; with_reducible refine (eqInk_yes _ _ _ _ _ _ xs0 _ ((nl_own ow5 lw5 r0.len uw5).on Bw5) ((nl_own ow10 lw10 r0.len uw10).on Bw10) htotL_xs0).mono ?_; rintro e w11 ⟨rfl, hbw11⟩; have zw11 := hbw11.size; replace B0 := below_on hbw11 B0; replace Bv := below_on hbw11 Bv; replace Bw4 := below_on hbw11 Bw4; replace Bw5 := below_on hbw11 Bw5; replace Bw6 := below_on hbw11 Bw6; replace Bw8 := below_on hbw11 Bw8; replace Bw10 := below_on hbw11 Bw10))
    clear kk0 kz0 kc0_0 kk1 kz1 kc1_0
    go_split_ands
    go_wp2
    go_ret
    exact ⟨rfl, B0⟩
  · go_enter Try.func7, Try.ntmps7
    go_wp2_with fail
    have B0 : Below w.heap.size w (w.alloc (.cells #[.slice A0 n0 cp0] 45)) := (by repeat (first | exact Below.refl _ _ | assumption | refine Below.drew ?_ | refine below_drewN ?_ _ | refine Below.alloc ?_ (by first | omega | (simp <;> omega)) _ | refine Below.setCell ?_ (by first | omega | (simp <;> omega)) _))
    have P0 : Blk (w.alloc (.cells #[.slice A0 n0 cp0] 45)) (w.heap.size) 45 #[.slice A0 n0 cp0] := by have hk := Blk.new w 45 #[.slice A0 n0 cp0]; simpa using hk
    generalize (w.alloc (.cells #[.slice A0 n0 cp0] 45)) = v at *
    have Bv : Below v.heap.size v v := Below.refl _ _
    have zv := B0.size
    with_reducible refine (szInk_no _ _ _ xs0 _ _ (r0.on B0) (by omega) (by omega) (by omega)).mono ?_
    rintro e w1 ⟨rfl, hbw1⟩
    have zw1 := hbw1.size
    replace B0 := below_on hbw1 B0
    replace Bv := below_on hbw1 Bv
    go_wp2
    go_ret
    exact ⟨rfl, B0⟩

/-! ### From the walk to the statement -/
set_option maxRecDepth 100000 in
theorem lifted (os : Os) (started : os.Started) (H : Type) (enc : TypeId × Value → H) :
    ReturnsInHanded {} Try.checked os 7 .any (Rows.fnExactCenterOfSpec.pre6 enc Try.prog Try.f7 Rows.fnExactCenterOfRow.domain false) (Rows.fnExactCenterOfSpec.post enc Try.prog Try.f7 false true false false) := by
  refine returnsInHanded_of_change (C := Try.checked) Try.own started (by kernel_rfl) Try.func7
    (ChangeSpec.witness6 (enc := enc) (C := Try.checked) false ⟨#[], #[.agg #[.slice none 0 0]], []⟩ 8 (by kernel_rfl) (by kernel_rfl) (by kernel_rfl) (by kernel_rfl)) ?_
  intro W base args ds gs before hval0 hW hcnd _
  have hval : ∀ (j : Nat) t v, Try.f7.params[j]? = some t → args[j]? = some v → Value.okWide Try.prog W .any base t v := hval0
  have hW' := hW
  obtain ⟨p, q, hA0, hV, rfl, hfz, hnd⟩ := hW
  have hA : DataW.TrodAll enc Try.prog W 0 (fun _ => true) true Try.f7.params.toList args.toList ds p := hA0
  rw [Try.params7] at hA hval
  obtain ⟨v0, vs0, d0, ds0, p0, q0, hargs, rfl, rfl, h0, tr0⟩ := trodAll_cons hA
  obtain ⟨rfl, rfl, rfl⟩ := trodAll_nil tr0
  obtain rfl : args = #[v0] := by cases args; simp_all
  obtain ⟨rfl, rfl⟩ := trodVars_none hV
  have k0 := h0
  have lt0 : ∀ x ∈ p0, x.block < W.heap.size := by obtain ⟨m, hm⟩ := k0; exact DataW.trod_lt m _ _ _ hm
  obtain ⟨A0, n0, cp0, xs0, rfl, r0, g0⟩ := opInk (hval 0 45 v0 rfl rfl) h0
  clear hA0 hval0
  refine (walk A0 n0 cp0 xs0 W r0 g0).mono fun e W' ⟨he, bel⟩ => ?_
  subst he
  exact ⟨_, rfl, _, _, _, [], _, [], hW', trodAll_mk1 (shut_bool Try.underlying4 _), (trodAll_cons_mk (Below.trod Try.laidOut (by kernel_rfl) (of_decide_eq_true (by kernel_rfl)) k0 bel lt0) trodAll_mk0), rfl, bel.frame _, fun h => by cases h⟩

theorem over : Rows.fnExactCenterOfRow.holds Try.pinned (OpenSpec.ofChange Rows.fnExactCenterOfSpec) :=
  OpenClaim.holds_of_wide 7 Try.f7 rfl rfl rfl rfl rfl rfl rfl ⟨rfl, rfl, rfl, rfl, rfl⟩ rfl rfl rfl rfl rfl (by kernel_rfl) Try.func7 (by kernel_rfl)
    (of_decide_eq_true (by kernel_rfl)) (by unfold Func.isWrapper; first | (rw [if_pos (by decide +kernel)]; kernel_rfl) | (rw [if_neg (by decide +kernel)]; exact ⟨rfl, rfl⟩))
    (fun os started H enc _ => lifted os started H enc)

theorem proved : Rows.FnExactCenterOfSaid := over
end fnExactCenterOf
end Go.Proofs.Ytpmaiklooapnfaa
