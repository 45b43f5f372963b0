/- The law of MiddleHeight returns true for every input: the program's MiddleHeight and the reference's return the same. No condition: every argument that can be read. -/
import Derived.Test.YtbfilhpgekgmbaaMh
import Derived.Test.YtbfilhpgekgmbaaGn
import Derived.Test.YtbfilhpgekgmbaaAr
import Derived.ProofKit
import Derived.Deep.RegionHeld3
import Derived.ChangeOld
namespace Go.Proofs.Ytbfilhpgekgmbaa
open Go.ChangeShapes Go.WideShapes Go.ChangeAt Go.RowKit
namespace fnExactMiddleHeight
set_option linter.unusedVariables false
theorem walk (A0 : Option Addr) (n0 cp0 : Nat) (xs0 : List (List T3)) (w : World) (r0 : NL w w.heap.size A0 n0 cp0 xs0) (g0 : ∀ x ∈ xs0, ∀ q ∈ x, ok3 q) :
    Calls Try.prog 7 #[.agg #[.slice A0 n0 cp0]] w fun e w' => e = .returned (.bool true) ∧ Below w.heap.size w w' := by
  have m0 : n0 ≤ 9223372036854775807 := Nat.le_trans r0.cap r0.capm
  by_cases hbig : totL xs0 ≤ 1048576
  · have htotL_xs0 : totL xs0 ≤ 1048576 := by omega
    go_enter Try.func7, Try.ntmps7
    go_wp2_with fail
    have B0 : Below w.heap.size w (w.alloc (.cells #[.slice A0 n0 cp0] 24)) := (by repeat (first | exact Below.refl _ _ | assumption | refine Below.drew ?_ | refine below_drewN ?_ _ | refine Below.alloc ?_ (by first | omega | (simp <;> omega)) _ | refine Below.setCell ?_ (by first | omega | (simp <;> omega)) _))
    have P0 : Blk (w.alloc (.cells #[.slice A0 n0 cp0] 24)) (w.heap.size) 24 #[.slice A0 n0 cp0] := by have hk := Blk.new w 24 #[.slice A0 n0 cp0]; simpa using hk
    generalize (w.alloc (.cells #[.slice A0 n0 cp0] 24)) = v at *
    have Bv : Below v.heap.size v v := Below.refl _ _
    have zv := B0.size
    with_reducible refine (szInk_yes _ _ _ xs0 _ _ (r0.on B0) (by omega) (by omega) (by omega)).mono ?_
    rintro e w1 ⟨rfl, hbw1⟩
    have zw1 := hbw1.size
    replace B0 := below_on hbw1 B0
    replace Bv := below_on hbw1 Bv
    have hzl : (0 : Int) ≤ 1048576 - (totL xs0 : Int) := by omega
    have kk0 := (P0.on Bv)
    have kc0_0 := kk0.cell 0
    simp only [List.getElem?_toArray, List.getElem?_cons_zero] at kc0_0
    have kz0 := kk0.lt
    go_wp2_with fail
    clear kk0 kz0 kc0_0
    with_reducible refine (toInk_any A0 n0 cp0 xs0 _ (r0.on B0) htotL_xs0).mono ?_
    rintro e w2 ⟨qw2, sw2, rfl, ow2, lw2, uw2, hbw2⟩
    have zw2 := hbw2.size
    replace B0 := below_on hbw2 B0
    replace Bv := below_on hbw2 Bv
    have Bw2 : Below w2.heap.size w2 w2 := Below.refl _ _
    go_wp2_with fail
    with_reducible refine (sMiddleHeight_any _ _ _ xs0 _ ((nl_own ow2 lw2 r0.len uw2).on Bw2) htotL_xs0).mono ?_
    rintro e w3 ⟨rfl, hbw3⟩
    have zw3 := hbw3.size
    replace B0 := below_on hbw3 B0
    replace Bv := below_on hbw3 Bv
    replace Bw2 := below_on hbw3 Bw2
    clear Bw2
    have kk0 := (P0.on Bv)
    have kc0_0 := kk0.cell 0
    simp only [List.getElem?_toArray, List.getElem?_cons_zero] at kc0_0
    have kz0 := kk0.lt
    go_wp2_with fail
    clear kk0 kz0 kc0_0
    with_reducible refine (toInk_any A0 n0 cp0 xs0 _ (r0.on B0) htotL_xs0).mono ?_
    rintro e w4 ⟨qw4, sw4, rfl, ow4, lw4, uw4, hbw4⟩
    have zw4 := hbw4.size
    replace B0 := below_on hbw4 B0
    replace Bv := below_on hbw4 Bv
    have Bw4 : Below w4.heap.size w4 w4 := Below.refl _ _
    go_wp2_with fail
    generalize hW : w4.alloc (.cells #[.slice (some ⟨qw4, 0, none⟩) n0 n0] 28) = w5
    have hbw5 : Below w4.heap.size w4 w5 := by rw [← hW]; exact (Below.refl _ _).alloc (Nat.le_refl _) _
    have Jw5 : Blk w5 w4.heap.size 28 #[.slice (some ⟨qw4, 0, none⟩) n0 n0] := by rw [← hW]; exact Blk.new _ _ _
    clear hW
    have zw5 := hbw5.size
    replace B0 := below_on hbw5 B0
    replace Bv := below_on hbw5 Bv
    replace Bw4 := below_on hbw5 Bw4
    have Bw5 : Below w5.heap.size w5 w5 := Below.refl _ _
    have kk0 := (Jw5.on Bw5)
    have kc0_0 := kk0.cell 0
    simp only [List.getElem?_toArray, List.getElem?_cons_zero] at kc0_0
    have kz0 := kk0.lt
    go_wp2_with fail
    clear kk0 kz0 kc0_0
    with_reducible refine (iMiddleHeight_any _ _ _ xs0 _ ((nl_own ow4 lw4 r0.len uw4).on Bw4) htotL_xs0).mono ?_
    rintro e w6 ⟨rfl, hbw6⟩
    have zw6 := hbw6.size
    replace B0 := below_on hbw6 B0
    replace Bv := below_on hbw6 Bv
    replace Bw4 := below_on hbw6 Bw4
    replace Bw5 := below_on hbw6 Bw5
    have kk0 := (P0.on Bv)
    have kc0_0 := kk0.cell 0
    simp only [List.getElem?_toArray, List.getElem?_cons_zero] at kc0_0
    have kz0 := kk0.lt
    have kk1 := (Jw5.on Bw5)
    have kc1_0 := kk1.cell 0
    simp only [List.getElem?_toArray, List.getElem?_cons_zero] at kc1_0
    have kz1 := kk1.lt
    go_wp2_with fail
    replace B0 := Below.drew B0
    replace Bv := Below.drew Bv
    replace Bw4 := Below.drew Bw4
    replace Bw5 := Below.drew Bw5
    go_region_held3 (fun w' => (∀ b o, b < w6.heap.size → w'.cell? ⟨b, o, none⟩ = w6.cell? ⟨b, o, none⟩) ∧ Below w6.heap.size w6 w') (first | exact sk (Below.refl _ _).drew | (go_split_ands; first | exact sk (below_app ‹_› hbw7 (Below.size ‹_›)) | exact sk (below_app ‹_› hbw8 (Below.size ‹_›)))) (first | (go_at_call 10; with_reducible refine (toInk_any A0 n0 cp0 xs0 _ (r0.on B0) htotL_xs0).mono ?_; rintro e w7 ⟨qw7, sw7, rfl, ow7, lw7, uw7, hbw7⟩; have zw7 := hbw7.size; rw [hs_drew] at zw7; replace B0 := below_on hbw7 B0; replace Bv := below_on hbw7 Bv; replace Bw4 := below_on hbw7 Bw4; replace Bw5 := below_on hbw7 Bw5; have Bw7 : Below w7.heap.size w7 w7 := Below.refl _ _) | (go_at_call 12; with_reducible refine (eqInk_yes _ _ _ _ _ _ xs0 _ ((nl_own ow4 lw4 r0.len uw4).on Bw4) ((nl_own ow7 lw7 r0.len uw7).on Bw7) htotL_xs0).mono ?_; rintro e w8 ⟨rfl, hbw8⟩; have zw8 := hbw8.size; replace B0 := below_on hbw8 B0; replace Bv := below_on hbw8 Bv; replace Bw4 := below_on hbw8 Bw4; replace Bw5 := below_on hbw8 Bw5; replace Bw7 := below_on hbw8 Bw7))
    clear kk0 kz0 kc0_0 kk1 kz1 kc1_0
    go_split_ands
    go_wp2
    go_ret
    exact ⟨rfl, B0⟩
  · go_enter Try.func7, Try.ntmps7
    go_wp2_with fail
    have B0 : Below w.heap.size w (w.alloc (.cells #[.slice A0 n0 cp0] 24)) := (by repeat (first | exact Below.refl _ _ | assumption | refine Below.drew ?_ | refine below_drewN ?_ _ | refine Below.alloc ?_ (by first | omega | (simp <;> omega)) _ | refine Below.setCell ?_ (by first | omega | (simp <;> omega)) _))
    have P0 : Blk (w.alloc (.cells #[.slice A0 n0 cp0] 24)) (w.heap.size) 24 #[.slice A0 n0 cp0] := by have hk := Blk.new w 24 #[.slice A0 n0 cp0]; simpa using hk
    generalize (w.alloc (.cells #[.slice A0 n0 cp0] 24)) = v at *
    have Bv : Below v.heap.size v v := Below.refl _ _
    have zv := B0.size
    with_reducible refine (szInk_no _ _ _ xs0 _ _ (r0.on B0) (by omega) (by omega) (by omega)).mono ?_
    rintro e w1 ⟨rfl, hbw1⟩
    have zw1 := hbw1.size
    replace B0 := below_on hbw1 B0
    replace Bv := below_on hbw1 Bv
    go_wp2
    go_ret
    exact ⟨rfl, B0⟩

/-! ### From the walk to the statement -/
set_option maxRecDepth 100000 in
theorem lifted (os : Os) (started : os.Started) (H : Type) (enc : TypeId × Value → H) :
    ReturnsInHanded {} Try.checked os 7 .any (Rows.fnExactMiddleHeightSpec.pre6 enc Try.prog Try.f7 Rows.fnExactMiddleHeightRow.domain false) (Rows.fnExactMiddleHeightSpec.post enc Try.prog Try.f7 false true false false) := by
  refine returnsInHanded_of_change (C := Try.checked) Try.own started (by kernel_rfl) Try.func7
    (ChangeSpec.witness6 (enc := enc) (C := Try.checked) false ⟨#[], #[.agg #[.slice none 0 0]], []⟩ 8 (by kernel_rfl) (by kernel_rfl) (by kernel_rfl) (by kernel_rfl)) ?_
  intro W base args ds gs before hval0 hW hcnd _
  have hval : ∀ (j : Nat) t v, Try.f7.params[j]? = some t → args[j]? = some v → Value.okWide Try.prog W .any base t v := hval0
  have hW' := hW
  obtain ⟨p, q, hA0, hV, rfl, hfz, hnd⟩ := hW
  have hA : DataW.TrodAll enc Try.prog W 0 (fun _ => true) true Try.f7.params.toList args.toList ds p := hA0
  rw [Try.params7] at hA hval
  obtain ⟨v0, vs0, d0, ds0, p0, q0, hargs, rfl, rfl, h0, tr0⟩ := trodAll_cons hA
  obtain ⟨rfl, rfl, rfl⟩ := trodAll_nil tr0
  obtain rfl : args = #[v0] := by cases args; simp_all
  obtain ⟨rfl, rfl⟩ := trodVars_none hV
  have k0 := h0
  have lt0 : ∀ x ∈ p0, x.block < W.heap.size := by obtain ⟨m, hm⟩ := k0; exact DataW.trod_lt m _ _ _ hm
  obtain ⟨A0, n0, cp0, xs0, rfl, r0, g0⟩ := opInk (hval 0 24 v0 rfl rfl) h0
  clear hA0 hval0
  refine (walk A0 n0 cp0 xs0 W r0 g0).mono fun e W' ⟨he, bel⟩ => ?_
  subst he
  exact ⟨_, rfl, _, _, _, [], _, [], hW', trodAll_mk1 (shut_bool Try.underlying4 _), (trodAll_cons_mk (Below.trod Try.laidOut (by kernel_rfl) (of_decide_eq_true (by kernel_rfl)) k0 bel lt0) trodAll_mk0), rfl, bel.frame _, fun h => by cases h⟩

theorem over : Rows.fnExactMiddleHeightRow.holds Try.pinned (OpenSpec.ofChange Rows.fnExactMiddleHeightSpec) :=
  OpenClaim.holds_of_wide 7 Try.f7 rfl rfl rfl rfl rfl rfl rfl ⟨rfl, rfl, rfl, rfl, rfl⟩ rfl rfl rfl rfl rfl (by kernel_rfl) Try.func7 (by kernel_rfl)
    (of_decide_eq_true (by kernel_rfl)) (by unfold Func.isWrapper; first | (rw [if_pos (by decide +kernel)]; kernel_rfl) | (rw [if_neg (by decide +kernel)]; exact ⟨rfl, rfl⟩))
    (fun os started H enc _ => lifted os started H enc)

theorem proved : Rows.FnExactMiddleHeightSaid := over
end fnExactMiddleHeight
end Go.Proofs.Ytbfilhpgekgmbaa
